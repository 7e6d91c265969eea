/-
  The law RedundancyNets, the plain law: Merge with the networks exchanged; Merge as one result; arrivals of one's own. No condition.
-/
import Derived.Test.YtllabfbebidjiaaCa
import Derived.Maps.AppendAt
namespace Go.Proofs.Ytllabfbebidjiaa
open Go.RowKit
/-- are the first k arrivals ones that Merge takes -/
def allOk (skew : Int) (N Q T : Nat → Int) : Nat → Bool
  | 0 => true
  | k + 1 => allOk skew N Q T k && mok skew N Q T k
theorem allOk_iff {skew : Int} {N Q T : Nat → Int} : ∀ {n : Nat}, allOk skew N Q T n = true ↔ ∀ j, j < n → mok skew N Q T j = true
  | 0 => by simp [allOk]
  | n + 1 => by
    rw [allOk, Bool.and_eq_true, allOk_iff]
    constructor
    · rintro ⟨h1, h2⟩ j hj
      by_cases e : j = n
      · rw [e]; exact h2
      · exact h1 j (by omega)
    · intro h
      exact ⟨fun j hj => h j (by omega), h n (by omega)⟩
def okS (k : Int) : Bool := decide (0 ≤ k) && decide (k ≤ 1073741824)
/-- what Merge answers -/
def mgR (skew : Int) (N Q T : Nat → Int) (n : Nat) : List Bool × Int := if (okS skew && allOk skew N Q T n) = true then (mout skew N Q T n, 0) else ([], 2)
def MAny (r : List Bool × Int) (w : World) (e : Ending) (w' : World) : Prop := (∃ A c, e = .returned (.tuple #[.slice A r.1.length c, .int .i64 r.2]) ∧ BoolsIn w' A r.1) ∧ Below w.heap.size w w'
theorem merge_any (skew : Int) (A : Option Addr) (n c : Nat) (N Q T : Nat → Int) (w : World) (hA : ArrIn w A n N Q T) (hn : n ≤ 1000000) :
    Calls Try.prog 15 #[.int .i64 skew, .slice A n c] w (MAny (mgR skew N Q T n) w) := by
  by_cases hs : 0 ≤ skew ∧ skew ≤ 1073741824
  · refine (merge_ok skew A n c N Q T w hA hs.1 hs.2 hn).mono ?_
    rintro e w' ⟨hb, (⟨h1, A', c', rfl, h2⟩ | ⟨⟨j, hj, h1⟩, rfl⟩)⟩
    · have : mgR skew N Q T n = (mout skew N Q T n, 0) := if_pos (by rw [allOk_iff.2 h1]; simp [okS, hs])
      rw [this]
      exact ⟨⟨A', c', by rw [mout_len], h2⟩, hb⟩
    · have : mgR skew N Q T n = ([], 2) := if_neg (fun h => by
        rw [Bool.and_eq_true, allOk_iff] at h
        rw [h.2 j hj] at h1
        cases h1)
      rw [this]
      exact ⟨⟨none, 0, rfl, fun h => absurd h (by simp)⟩, hb⟩
  · refine (merge_bad skew A n c w (by omega)).mono ?_
    rintro e w' ⟨rfl, rfl⟩
    have : mgR skew N Q T n = ([], 2) := if_neg (fun h => by
      rw [Bool.and_eq_true] at h
      simp [okS] at h
      omega)
    rw [this]
    exact ⟨⟨none, 0, rfl, fun h => absurd h (by simp)⟩, Below.refl _ _⟩
/-- m' is m with the networks exchanged -/
structure Tw (m m' : MS) : Prop where
  sel : m'.sel = m.sel
  now : m'.now = m.now
  p0 : m'.p 0 = m.p 1
  p1 : m'.p 1 = m.p 0
  s0 : m'.so 0 = m.so 1
  s1 : m'.so 1 = m.so 0
theorem Tw.step {m m' : MS} (h : Tw m m') {x x' q t : Int} (h0 : (x = 0 ∧ x' = 1) ∨ (x = 1 ∧ x' = 0)) : Tw (mgStep m x q t).1 (mgStep m' x' q t).1 ∧ (mgStep m x q t).2 = (mgStep m' x' q t).2 := by
  obtain ⟨a1, a2, a3, a4, a5, a6⟩ := h
  rcases h0 with ⟨rfl, rfl⟩ | ⟨rfl, rfl⟩
  · have hc : adm (m'.so (1 : Int).toNat) (m'.p (1 : Int).toNat) q = adm (m.so (0 : Int).toNat) (m.p (0 : Int).toNat) q := by
      show adm (m'.so 1) (m'.p 1) q = adm (m.so 0) (m.p 0) q
      rw [a4, a6]
    unfold mgStep
    rw [hc, a1]
    split
    · exact ⟨⟨rfl, rfl, by simpa using a3, by simp, by simpa using a5, by simp⟩, rfl⟩
    · exact ⟨⟨rfl, rfl, by simpa using a3, by simp, by simpa using a5, by simp⟩, rfl⟩
  · have hc : adm (m'.so (0 : Int).toNat) (m'.p (0 : Int).toNat) q = adm (m.so (1 : Int).toNat) (m.p (1 : Int).toNat) q := by
      show adm (m'.so 0) (m'.p 0) q = adm (m.so 1) (m.p 1) q
      rw [a3, a5]
    unfold mgStep
    rw [hc, a1]
    split
    · exact ⟨⟨rfl, rfl, by simp, by simpa using a4, by simp, by simpa using a6⟩, rfl⟩
    · exact ⟨⟨rfl, rfl, by simp, by simpa using a4, by simp, by simpa using a6⟩, rfl⟩
def turn (N : Nat → Int) (k : Nat) : Int := wrap64 (1 - N k)
theorem turn_bd {x : Int} (h0 : -9223372036854775808 ≤ x) (h1 : x ≤ 9223372036854775807) : (0 ≤ wrap64 (1 - x) ∧ wrap64 (1 - x) ≤ 1 ↔ 0 ≤ x ∧ x ≤ 1) ∧ ((0 ≤ x ∧ x ≤ 1) → (x = 0 ∧ wrap64 (1 - x) = 1) ∨ (x = 1 ∧ wrap64 (1 - x) = 0)) := by
  unfold wrap64
  constructor
  · omega
  · intro h; omega
theorem turned {skew : Int} {N Q T : Nat → Int} {n : Nat} (hN : ∀ k, k < n → -9223372036854775808 ≤ N k ∧ N k ≤ 9223372036854775807) :
    ∀ {k : Nat}, k ≤ n → allOk skew (turn N) Q T k = allOk skew N Q T k ∧ (allOk skew N Q T k = true → Tw (mst skew N Q T k) (mst skew (turn N) Q T k) ∧ mout skew (turn N) Q T k = mout skew N Q T k)
  | 0, _ => ⟨rfl, fun _ => ⟨⟨rfl, rfl, rfl, rfl, rfl, rfl⟩, rfl⟩⟩
  | k + 1, hk => by
    obtain ⟨h1, h2⟩ := turned hN (k := k) (by omega)
    obtain ⟨r1, r2⟩ := turn_bd (hN k (by omega)).1 (hN k (by omega)).2
    have hm : allOk skew N Q T k = true → mok skew (turn N) Q T k = mok skew N Q T k := fun h => by
      obtain ⟨tw, _⟩ := h2 h
      unfold mok mgOk
      rw [tw.now]
      congr 1
      rw [Bool.eq_iff_iff]
      simp only [Bool.and_eq_true, decide_eq_true_eq]
      exact r1
    refine ⟨?_, fun h => ?_⟩
    · rw [allOk, allOk, h1]
      cases ha : allOk skew N Q T k with
      | false => rfl
      | true => rw [hm ha]
    · rw [allOk, Bool.and_eq_true] at h
      obtain ⟨tw, ho⟩ := h2 h.1
      have hx : 0 ≤ N k ∧ N k ≤ 1 := by
        have := h.2
        simp only [mok, mgOk, Bool.and_eq_true, decide_eq_true_eq] at this
        exact this.1
      obtain ⟨tw2, ho2⟩ := tw.step (q := Q k) (t := T k) (r2 hx)
      exact ⟨tw2, by rw [mout, mout, ho, ho2]; rfl⟩
theorem mgR_turn {skew : Int} {N Q T : Nat → Int} {n : Nat} (hN : ∀ k, k < n → -9223372036854775808 ≤ N k ∧ N k ≤ 9223372036854775807) : mgR skew (turn N) Q T n = mgR skew N Q T n := by
  obtain ⟨h1, h2⟩ := turned (skew := skew) (Q := Q) (T := T) hN (Nat.le_refl n)
  unfold mgR
  rw [h1]
  split
  · rename_i h
    rw [Bool.and_eq_true] at h
    rw [(h2 h.2).2]
  · rfl
/-! ### arrivals that came in, the networks being ints that can be; arrivals of one's own -/
def ArrOk (w : World) (A : Option Addr) (n : Nat) (N Q T : Nat → Int) : Prop := ArrIn w A n N Q T ∧ ∀ k, k < n → -9223372036854775808 ≤ N k ∧ N k ≤ 9223372036854775807
section
open Go.ChangeShapes Go.WideShapes Go.Deep
theorem arrs_ok {H : Type} {enc : TypeId × Value → H} {w : World} {held : Bool} {A : Option Addr} {len cap fuel : Nat} {x : DataW H × List MemPlace}
    (h : DataW.trod enc Try.prog w 0 (fun _ => true) held fuel 22 [.slice A len cap] = some x) : ∃ N Q T, ArrOk w A len N Q T := by
  obtain ⟨N, Q, T, hA⟩ := arrs_in h
  refine ⟨N, Q, T, hA, fun k hk => ?_⟩
  obtain ⟨_, hc⟩ := fields_in Try.underlying22 Try.underlying31 (by kernel_rfl) (by kernel_rfl) (by simp) h
  obtain ⟨b, off, hA1, _, hi⟩ := hc (by omega)
  obtain ⟨b', off', hA2, _, hi'⟩ := hA.2 (by omega)
  rw [hA1] at hA2
  obtain ⟨rfl, rfl⟩ : b = b' ∧ off = off' := by injection hA2 with e; injection e with e1 e2; exact ⟨e1, e2⟩
  obtain ⟨v, y, n, c, t⟩ := hi k hk 0 _ rfl
  obtain ⟨m, e, _, hw⟩ := DataW.trod_int Try.underlying3 t
  simp only [List.cons.injEq, and_true] at e
  subst e
  have c' : w.cell? ⟨b, off + k * 3, none⟩ = some (.int .i64 m) := c
  rw [(hi' k hk).1] at c'
  cases c'
  exact bounds_i64 hw
end
def a3 (N Q T : Nat → Int) : Nat → List Value
  | 0 => []
  | k + 1 => a3 N Q T k ++ [.int .i64 (N k), .int .i64 (Q k), .int .i64 (T k)]
theorem a3_len (N Q T : Nat → Int) : ∀ k, (a3 N Q T k).length = k * 3
  | 0 => rfl
  | k + 1 => by rw [a3, List.length_append, a3_len N Q T k]; simp; omega
theorem a3_at {N Q T : Nat → Int} {j : Nat} : ∀ {k : Nat}, j < k → (a3 N Q T k)[j * 3]? = some (.int .i64 (N j)) ∧ (a3 N Q T k)[j * 3 + 1]? = some (.int .i64 (Q j)) ∧ (a3 N Q T k)[j * 3 + 2]? = some (.int .i64 (T j))
  | 0, h => absurd h (by omega)
  | k + 1, h => by
    have hl := a3_len N Q T k
    rw [a3]
    by_cases e : j = k
    · subst e
      refine ⟨?_, ?_, ?_⟩ <;> rw [List.getElem?_append_right (by omega), hl]
      · rw [Nat.sub_self]; rfl
      · rw [Nat.add_sub_cancel_left]; rfl
      · rw [Nat.add_sub_cancel_left]; rfl
    · obtain ⟨h1, h2, h3⟩ := a3_at (N := N) (Q := Q) (T := T) (j := j) (k := k) (by omega)
      refine ⟨?_, ?_, ?_⟩ <;> rw [List.getElem?_append_left (by omega)] <;> assumption
theorem own_arrs {w : World} {base n : Nat} {v : Value} {N Q T : Nat → Int} (hn : n ≤ 1000000) (h : w.ownsRow base 31 3 v n (a3 N Q T n)) : ∃ A c, v = .slice A n c ∧ ArrIn w A n N Q T := by
  rcases h.2 with ⟨rfl, h0⟩ | ⟨g, cap, cur, rfl, _, hh, _⟩
  · rw [h0]
    exact ⟨none, 0, rfl, by omega, fun h => by omega⟩
  · refine ⟨_, _, rfl, by omega, fun _ => ⟨g, 0, rfl, lt_of_block hh, fun k hk => ?_⟩⟩
    obtain ⟨h1, h2, h3⟩ := a3_at (N := N) (Q := Q) (T := T) hk
    have f1 := h.cells (g := g) rfl _ _ h1
    have f2 := h.cells (g := g) rfl _ _ h2
    have f3 := h.cells (g := g) rfl _ _ h3
    rw [add_eq, Nat.zero_add] at f1 f2 f3
    rw [Nat.zero_add]
    exact ⟨f1, f2, f3⟩
theorem kept_dis {W W' : World} {base size n : Nat} {e : TypeId} {v5 v6 : Value} {xs : List Value} (h : W.ownsRow base e size v6 n xs) (hg : W.grownBy W' v5.ownBlock) (hd : ∀ g, v5.ownBlock = some g → v6.ownBlock ≠ some g) : W'.ownsRow base e size v6 n xs := by
  refine h.kept hg ?_
  rcases h.2 with ⟨rfl, _⟩ | ⟨g, cap, cur, rfl, _⟩
  · exact .inl rfl
  · exact .inr fun he => hd g he.symm rfl
theorem new_three (w : World) (x y z : Value) (t : TypeId) : ∀ (j : Nat) (u : Value), [x, y, z][j]? = some u → (w.alloc (.cells #[x, y, z] t)).cell? ((⟨w.heap.size, 0, none⟩ : Addr).add j) = some u := by
  intro j u hj
  have hb := Blk.made w t #[x, y, z]
  rw [add_eq, Nat.zero_add, hb.cell]
  simpa using hj
theorem three_one (a b c : Int) : ∀ u ∈ [Value.int .i64 a, Value.int .i64 b, Value.int .i64 c], u.oneCell' = true := by
  intro u hu
  simp at hu
  rcases hu with rfl | rfl | rfl <;> rfl
theorem Try.info31' : (Try.prog.info? 31).map (fun i => (i.zero, i.size, i.bytes)) = some (some (.agg #[.int .i64 0, .int .i64 0, .int .i64 0]), 3, 24) := by kernel_rfl
end Go.Proofs.Ytllabfbebidjiaa
