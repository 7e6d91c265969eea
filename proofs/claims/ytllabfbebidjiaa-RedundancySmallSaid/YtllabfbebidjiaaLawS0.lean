/-
  Slices of literals: arrivals (or calls) in a block of one's own. No condition. And rows of one's own of two types.
-/
import Derived.Test.YtllabfbebidjiaaLawT
import Derived.Test.YtllabfbebidjiaaM1
namespace Go.Proofs.Ytllabfbebidjiaa
open Go.RowKit
def lit3 (l : List (Int × Int × Int)) : List Value := l.flatMap fun q => [.int .i64 q.1, .int .i64 q.2.1, .int .i64 q.2.2]
theorem lit3_at : ∀ (l : List (Int × Int × Int)) (k : Nat), k < l.length → (lit3 l)[k * 3]? = some (.int .i64 (l.getD k (0, 0, 0)).1) ∧ (lit3 l)[k * 3 + 1]? = some (.int .i64 (l.getD k (0, 0, 0)).2.1) ∧ (lit3 l)[k * 3 + 2]? = some (.int .i64 (l.getD k (0, 0, 0)).2.2)
  | [], k, h => by simp at h
  | q :: l, 0, _ => ⟨rfl, rfl, rfl⟩
  | q :: l, k + 1, h => by
    have ih := lit3_at l k (by simpa using h)
    have e1 : lit3 (q :: l) = [.int .i64 q.1, .int .i64 q.2.1, .int .i64 q.2.2] ++ lit3 l := rfl
    rw [e1, show (k + 1) * 3 = k * 3 + 3 by omega, show k * 3 + 3 + 1 = k * 3 + 1 + 3 by omega, show k * 3 + 3 + 2 = k * 3 + 2 + 3 by omega]
    exact ih
theorem arr_lits {W : World} {g : Nat} {t : TypeId} {cs : Array Value} (hb : Blk W g t cs) (l : List (Int × Int × Int)) (hcs : cs.toList = lit3 l) (hl : l.length ≤ 9) :
    ∃ N Q T, ArrIn W (some ⟨g, 0, none⟩) l.length N Q T := by
  refine ⟨fun k => (l.getD k (0, 0, 0)).1, fun k => (l.getD k (0, 0, 0)).2.1, fun k => (l.getD k (0, 0, 0)).2.2, by omega, fun _ => ⟨g, 0, rfl, hb.lt, fun k hk => ?_⟩⟩
  have h := lit3_at l k hk
  rw [← hcs] at h
  simp only [Array.getElem?_toList] at h
  rw [hb.cell, hb.cell, hb.cell]
  simp only [Nat.zero_add]
  exact h
theorem kept_ty {W W' : World} {base base' size size' n n' : Nat} {e e' : TypeId} {v v' : Value} {xs xs' : List Value} (h : W.ownsRow base e size v n xs) (h' : W.ownsRow base' e' size' v' n' xs') (hg : W.grownBy W' v'.ownBlock) (hne : e ≠ e') : W'.ownsRow base e size v n xs := by
  refine h.kept hg ?_
  rcases h.2 with ⟨rfl, _⟩ | ⟨g, cap, cur, rfl, _, hh, _⟩
  · exact .inl rfl
  · refine .inr fun he => ?_
    rcases h'.2 with ⟨rfl, _⟩ | ⟨g', cap', cur', rfl, _, hh', _⟩
    · simp [Value.ownBlock] at he
    · simp [Value.ownBlock] at he
      subst he
      rw [hh] at hh'
      injection hh' with hh'
      injection hh' with _ ht
      exact hne ht
theorem arrIn_below {W W' : World} {A : Option Addr} {n : Nat} {N Q T : Nat → Int} (h : ArrIn W A n N Q T) (hb : Below W.heap.size W W') : ArrIn W' A n N Q T := h.kept hb (Nat.le_refl _)
/-- offers and merges at slices that lie, whatever they hold -/
def Lies (W : World) (A : Option Addr) (n : Nat) : Prop := (∃ N Q T, ArrIn W A n N Q T) ∧ A ≠ none ∧ n ≤ 9
theorem Lies.below {W W' : World} {A : Option Addr} {n : Nat} (h : Lies W A n) (hb : Below W.heap.size W W') : Lies W' A n := by
  obtain ⟨⟨N, Q, T, hA⟩, h1, h2⟩ := h
  exact ⟨⟨N, Q, T, arrIn_below hA hb⟩, h1, h2⟩
theorem offers_lies {A : Option Addr} {n : Nat} {w : World} (skew : Int) (c : Nat) (h : Lies w A n) : Calls Try.prog 21 #[.int .i64 skew, .slice A n c] w fun e w' => e = .returned (.bool true) ∧ Below w.heap.size w w' := by
  obtain ⟨⟨N, Q, T, hA⟩, _, hn⟩ := h
  exact offers_any skew A n c N Q T w hA (by omega)
theorem merges_lies {A : Option Addr} {n : Nat} {w : World} (skew : Int) (c : Nat) (h : Lies w A n) : Calls Try.prog 13 #[.int .i64 skew, .slice A n c] w fun e w' => e = .returned (.bool true) ∧ Below w.heap.size w w' := by
  obtain ⟨⟨N, Q, T, hA⟩, h1, hn⟩ := h
  exact merges_any skew A n c N Q T w hA (fun e => absurd e h1) (by omega)
theorem merges_nil (skew : Int) (w : World) : Calls Try.prog 13 #[.int .i64 skew, .slice none 0 0] w fun e w' => e = .returned (.bool true) ∧ Below w.heap.size w w' :=
  merges_any skew none 0 0 (fun _ => 0) (fun _ => 0) (fun _ => 0) w ⟨by omega, fun h => by omega⟩ (fun _ => ⟨rfl, rfl⟩) (by omega)
theorem lies_made {W : World} {g : Nat} {t : TypeId} {cs : Array Value} (hb : Blk W g t cs) (l : List (Int × Int × Int)) (hcs : cs.toList = lit3 l) (hl : l.length ≤ 9) : Lies W (some ⟨g, 0, none⟩) l.length :=
  ⟨arr_lits hb l hcs hl, by simp, hl⟩
theorem lit3_app (l m : List (Int × Int × Int)) : lit3 (l ++ m) = lit3 l ++ lit3 m := by simp [lit3]
theorem own_lies {W : World} {base n : Nat} {e : TypeId} {v : Value} {l : List (Int × Int × Int)} (h : W.ownsRow base e 3 v n (lit3 l)) (hl : l.length = n) (h0 : 0 < n) (h9 : n ≤ 9) : ∃ A c, v = .slice A n c ∧ Lies W A n := by
  rcases h.2 with ⟨rfl, h0'⟩ | ⟨g, cap, cur, rfl, _, hh, _⟩
  · omega
  · refine ⟨_, _, rfl, ⟨fun k => (l.getD k (0, 0, 0)).1, fun k => (l.getD k (0, 0, 0)).2.1, fun k => (l.getD k (0, 0, 0)).2.2, by omega, fun _ => ⟨g, 0, rfl, lt_of_block hh, fun k hk => ?_⟩⟩, by simp, h9⟩
    obtain ⟨h1, h2, h3⟩ := lit3_at l k (by omega)
    have f1 := h.cells (g := g) rfl _ _ h1
    have f2 := h.cells (g := g) rfl _ _ h2
    have f3 := h.cells (g := g) rfl _ _ h3
    rw [add_eq, Nat.zero_add] at f1 f2 f3
    rw [Nat.zero_add]
    exact ⟨f1, f2, f3⟩
theorem four_at (W : World) (i : Nat) (h : i < 4) : ∃ x : Int, (0 ≤ x ∧ x ≤ 4) ∧ (W.alloc (.cells #[.int .i64 0, .int .i64 1, .int .i64 3, .int .i64 4] 3)).cell? ⟨W.heap.size, i, none⟩ = some (.int .i64 x) := by
  have hb := Blk.made W 3 #[.int .i64 0, .int .i64 1, .int .i64 3, .int .i64 4]
  match i, h with
  | 0, _ => exact ⟨0, by omega, hb.cell 0⟩
  | 1, _ => exact ⟨1, by omega, hb.cell 1⟩
  | 2, _ => exact ⟨3, by omega, hb.cell 2⟩
  | 3, _ => exact ⟨4, by omega, hb.cell 3⟩
theorem three_at (W : World) (i : Nat) (h : i < 3) : ∃ x : Int, (W.alloc (.cells #[.int .i64 1, .int .i64 2, .int .i64 255] 3)).cell? ⟨W.heap.size, i, none⟩ = some (.int .i64 x) := by
  have hb := Blk.made W 3 #[.int .i64 1, .int .i64 2, .int .i64 255]
  match i, h with
  | 0, _ => exact ⟨1, hb.cell 0⟩
  | 1, _ => exact ⟨2, hb.cell 1⟩
  | 2, _ => exact ⟨255, hb.cell 2⟩
end Go.Proofs.Ytllabfbebidjiaa
