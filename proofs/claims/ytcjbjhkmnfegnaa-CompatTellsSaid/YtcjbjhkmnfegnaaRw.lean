/-
  Rows of one's own, and appending rows that came in. No condition but bounds.
-/
import Derived.Test.YtcjbjhkmnfegnaaUn
import Derived.Laws.AppendOwnNone
import Derived.Deep.AppendLies
namespace Go.Proofs.Ytcjbjhkmnfegnaa
open Go.RowKit Go.Shelf
theorem Try.info37' : (Try.prog.info? 37).map (fun i => (i.zero, i.size, i.bytes)) = some (some (.agg #[.string ByteArray.empty, .int .i64 0, .string ByteArray.empty, .int .i64 0]), 4, 48) := by kernel_rfl
/-- rows as cells -/
def rl4 (Rw : Nat → R) : Nat → List Value
  | 0 => []
  | k + 1 => rl4 Rw k ++ [.string (Rw k).1.1, .int .i64 (Rw k).1.2, .string (Rw k).2.1, .int .i64 (Rw k).2.2]
theorem rl4_len (Rw : Nat → R) : ∀ k, (rl4 Rw k).length = k * 4
  | 0 => rfl
  | k + 1 => by rw [rl4, List.length_append, rl4_len Rw k]; simp; omega
theorem rl4_at {Rw : Nat → R} {j : Nat} : ∀ {k : Nat}, j < k → (rl4 Rw k)[j * 4]? = some (.string (Rw j).1.1) ∧ (rl4 Rw k)[j * 4 + 1]? = some (.int .i64 (Rw j).1.2) ∧ (rl4 Rw k)[j * 4 + 2]? = some (.string (Rw j).2.1) ∧ (rl4 Rw k)[j * 4 + 3]? = some (.int .i64 (Rw j).2.2)
  | 0, h => absurd h (by omega)
  | k + 1, h => by
    have hl := rl4_len Rw k
    rw [rl4]
    by_cases e : j = k
    · subst e
      refine ⟨?_, ?_, ?_, ?_⟩ <;> rw [List.getElem?_append_right (by omega), hl]
      · rw [Nat.sub_self]; rfl
      · rw [Nat.add_sub_cancel_left]; rfl
      · rw [Nat.add_sub_cancel_left]; rfl
      · rw [Nat.add_sub_cancel_left]; rfl
    · obtain ⟨h1, h2, h3, h4⟩ := rl4_at (Rw := Rw) (j := j) (k := k) (by omega)
      refine ⟨?_, ?_, ?_, ?_⟩ <;> rw [List.getElem?_append_left (by omega)] <;> assumption
theorem four_one (a : ByteArray) (b : Int) (c : ByteArray) (d : Int) : ∀ u ∈ [Value.string a, Value.int .i64 b, Value.string c, Value.int .i64 d], u.oneCell' = true := by
  intro u hu
  simp at hu
  rcases hu with rfl | rfl | rfl | rfl <;> rfl
theorem rl4_one (Rw : Nat → R) : ∀ (k : Nat), ∀ u ∈ rl4 Rw k, u.oneCell' = true
  | 0, u, h => by cases h
  | k + 1, u, h => by
    rw [rl4, List.mem_append] at h
    rcases h with h | h
    · exact rl4_one Rw k u h
    · exact four_one _ _ _ _ u h
theorem row_cells {w : World} {a : Addr} {n : Nat} {Rw : Nat → R} (h : RowsIn w (some a) n Rw) : ∀ (j : Nat) (u : Value), (rl4 Rw n)[j]? = some u → w.cell? (a.add j) = some u := by
  intro j u hj
  have hl := (List.getElem?_eq_some_iff.1 hj).1
  rw [rl4_len] at hl
  obtain ⟨b, off, hA, _, hc⟩ := h.2 (by omega)
  injection hA with hA
  subst hA
  obtain ⟨q, hq⟩ : ∃ q, j / 4 = q := ⟨_, rfl⟩
  obtain ⟨c0, c1, c2, c3⟩ := hc q (by omega)
  obtain ⟨d0, d1, d2, d3⟩ := rl4_at (Rw := Rw) (j := q) (k := n) (by omega)
  rw [add_eq]
  have h3 : j = q * 4 ∨ j = q * 4 + 1 ∨ j = q * 4 + 2 ∨ j = q * 4 + 3 := by omega
  rcases h3 with rfl | rfl | rfl | rfl
  · rw [d0] at hj; injection hj with hj; rw [← hj]; exact c0
  · rw [d1] at hj; injection hj with hj; rw [← hj]; exact c1
  · rw [d2] at hj; injection hj with hj; rw [← hj]; exact c2
  · rw [d3] at hj; injection hj with hj; rw [← hj]; exact c3
theorem own_rows {w : World} {base n : Nat} {v : Value} {Rw : Nat → R} (hn : n ≤ 1000000) (h : w.ownsRow base 37 4 v n (rl4 Rw n)) : ∃ A c, v = .slice A n c ∧ RowsIn w A n Rw ∧ (A = none → n = 0 ∧ c = 0) := by
  rcases h.2 with ⟨rfl, h0⟩ | ⟨g, cap, cur, rfl, _, hh, _⟩
  · subst h0
    exact ⟨none, 0, rfl, ⟨by omega, fun h => by omega⟩, fun _ => ⟨rfl, rfl⟩⟩
  · refine ⟨_, _, rfl, ⟨by omega, fun _ => ⟨g, 0, rfl, lt_of_block hh, fun k hk => ?_⟩⟩, fun h => by cases h⟩
    obtain ⟨h1, h2, h3, h4⟩ := rl4_at (Rw := Rw) hk
    have f1 := h.cells (g := g) rfl _ _ h1
    have f2 := h.cells (g := g) rfl _ _ h2
    have f3 := h.cells (g := g) rfl _ _ h3
    have f4 := h.cells (g := g) rfl _ _ h4
    rw [add_eq, Nat.zero_add] at f1 f2 f3 f4
    rw [Nat.zero_add]
    exact ⟨f1, f2, f3, f4⟩
theorem own_none37 (w : World) : (w.alloc (.cells #[] 37)).ownsRow w.heap.size 37 4 (.slice (some ⟨w.heap.size, 0, none⟩) 0 0) 0 [] :=
  ⟨rfl, .inr ⟨w.heap.size, 0, #[], rfl, Nat.le_refl _, heap_alloc_new w _, Nat.le_refl _, by unfold maxLen; omega, rfl, rfl⟩⟩
/-- one slice of rows behind another -/
def app (X Y : Nat → R) (m : Nat) (j : Nat) : R := if j < m then X j else Y (j - m)
theorem rl4_congr {X Y : Nat → R} : ∀ {k : Nat}, (∀ j, j < k → X j = Y j) → rl4 X k = rl4 Y k
  | 0, _ => rfl
  | k + 1, h => by rw [rl4, rl4, rl4_congr (fun j hj => h j (by omega)), h k (by omega)]
theorem app_at (X Y : Nat → R) (m k : Nat) : app X Y m (m + k) = Y k := by unfold app; rw [if_neg (by omega), Nat.add_sub_cancel_left]
theorem rl4_app (X Y : Nat → R) (m : Nat) : ∀ k, rl4 X m ++ rl4 Y k = rl4 (app X Y m) (m + k)
  | 0 => by
    rw [rl4, List.append_nil]
    exact rl4_congr fun j hj => by simp [app, show j < m by omega]
  | k + 1 => by
    rw [rl4, ← List.append_assoc, rl4_app X Y m k, show m + (k + 1) = (m + k) + 1 by omega, rl4, app_at]
theorem new_four (w : World) (x y z u : Value) (t : TypeId) : ∀ (j : Nat) (v : Value), [x, y, z, u][j]? = some v → (w.alloc (.cells #[x, y, z, u] t)).cell? ((⟨w.heap.size, 0, none⟩ : Addr).add j) = some v := by
  intro j v hj
  have hb := Blk.made w t #[x, y, z, u]
  rw [add_eq, Nat.zero_add, hb.cell]
  simpa using hj
section
variable {w : World}
theorem wp_append_rows {o : Oper} {a : Act} {K : Act → World → Prop} {Q : Exit → Act → World → Prop} (s x : Operand)
    (ho : o.op = .call { callee := .builtin .append, args := #[s, x], argTypes := #[22, 22] })
    (base : Nat) (v : Value) (n : Nat) (xs : List Value) (hs : a.eval s = v) (hown : w.ownsRow base 37 4 v n xs)
    (A : Option Addr) (m c : Nat) (Rw : Nat → R) (hx : a.eval x = .slice A m c) (hR : RowsIn w A m Rw) (hz : A = none → m = 0 ∧ c = 0)
    (hb : n + m ≤ 1000) (hbase : base ≤ w.heap.size)
    (h : ∀ v' w', w'.ownsRow base 37 4 v' (n + m) (xs ++ rl4 Rw m) → w.grownBy w' v.ownBlock → K (a.put o.dst v') w') : o.wp Try.prog a w K Q := by
  obtain ⟨i0, hi, hz0, hz1, hz2⟩ := info_parts Try.info37'
  cases A with
  | none =>
    obtain ⟨rfl, rfl⟩ := hz rfl
    have hrun := run_append_owned_none (P := Try.prog) (w := w) base 22 o.type 37 i0 4 Try.underlying22 hi v n xs hown
    unfold Oper.wp
    simp [execOp, ho, resolve, invoke, builtin, hs, hx, hrun, Result.andThen]
    exact h v w (by simpa [rl4] using hown) (World.grownBy.refl _ _)
  | some ad =>
    exact wp_append_own w s x 22 ho base 37 i0 _ 4 48 Try.underlying22 hi hz0 hz1 hz2 rfl (by decide) v n xs hs hown ad m c (rl4 Rw m) hx (rl4_len _ _) (row_cells hR) (rl4_one _ _) (by unfold maxLen; omega) (by omega) hbase fun v' w' h2 h3 _ => h v' w' h2 h3
theorem wpList_append_rows {ops : Array Oper} {rest : List Oper} {o : Oper} {a : Act} {Q : Exit → Act → World → Prop} (hgd : o.guard = none) (s x : Operand)
    (ho : o.op = .call { callee := .builtin .append, args := #[s, x], argTypes := #[22, 22] })
    (base : Nat) (v : Value) (n : Nat) (xs : List Value) (hs : a.eval s = v) (hown : w.ownsRow base 37 4 v n xs)
    (A : Option Addr) (m c : Nat) (Rw : Nat → R) (hx : a.eval x = .slice A m c) (hR : RowsIn w A m Rw) (hz : A = none → m = 0 ∧ c = 0)
    (hb : n + m ≤ 1000) (hbase : base ≤ w.heap.size)
    (h : ∀ v' w', w'.ownsRow base 37 4 v' (n + m) (xs ++ rl4 Rw m) → w.grownBy w' v.ownBlock → wpList Try.prog ops Q rest (a.put o.dst v') w') : wpList Try.prog ops Q (o :: rest) a w :=
  wpList_plain hgd fun _ hK => wp_append_rows s x ho base v n xs hs hown A m c Rw hx hR hz hb hbase fun v' w' h2 h3 => hK _ _ (h v' w' h2 h3)
theorem step_append_rows {ops : Array Oper} {o : Oper} {a : Act} {K : Act → World → Prop} {Q : Exit → Act → World → Prop} {E : Prop} (hgd : o.guard = none) (s x : Operand)
    (ho : o.op = .call { callee := .builtin .append, args := #[s, x], argTypes := #[22, 22] })
    (base : Nat) (v : Value) (n : Nat) (xs : List Value) (hs : a.eval s = v) (hown : w.ownsRow base 37 4 v n xs)
    (A : Option Addr) (m c : Nat) (Rw : Nat → R) (hx : a.eval x = .slice A m c) (hR : RowsIn w A m Rw) (hz : A = none → m = 0 ∧ c = 0)
    (hb : n + m ≤ 1000) (hbase : base ≤ w.heap.size)
    (h : ∀ v' w', w'.ownsRow base 37 4 v' (n + m) (xs ++ rl4 Rw m) → w.grownBy w' v.ownBlock → K (a.put o.dst v') w') :
    if Region.wanted o (yielded ops a.tmps) = true then Oper.wp Try.prog o a w K Q else E := by
  have hw : Region.wanted o (yielded ops a.tmps) = true := by simp [Region.wanted, hgd]
  rw [if_pos hw]
  exact wp_append_rows s x ho base v n xs hs hown A m c Rw hx hR hz hb hbase h
end
theorem row_made {W : World} {g : Nat} {t : TypeId} {r : R} (h : Blk W g t #[.string r.1.1, .int .i64 r.1.2, .string r.2.1, .int .i64 r.2.2]) : RowsIn W (some ⟨g, 0, none⟩) 1 (fun _ => r) := by
  refine ⟨by omega, fun _ => ⟨g, 0, rfl, h.lt, fun k hk => ?_⟩⟩
  obtain rfl : k = 0 := by omega
  rw [h.cell, h.cell, h.cell, h.cell]
  exact ⟨rfl, rfl, rfl, rfl⟩
end Go.Proofs.Ytcjbjhkmnfegnaa
