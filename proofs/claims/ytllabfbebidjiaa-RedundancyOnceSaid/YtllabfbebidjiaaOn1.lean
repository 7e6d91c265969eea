/-
  The plain law of RedundancyOnce: a sender's frames on two networks, each delivered once with its first copy. No program in sight; no condition but the law's own numbers.
-/
import Derived.Test.YtllabfbebidjiaaLawN
namespace Go.Proofs.Ytllabfbebidjiaa
/-- an arrival: network, number, time -/
abbrev Ev := Int × Int × Int
def runL (m : MS) : List Ev → MS
  | [] => m
  | e :: l => runL (mgStep m e.1 e.2.1 e.2.2).1 l
def okL (m : MS) : List Ev → Bool
  | [] => true
  | e :: l => mgOk m.now e.1 e.2.1 e.2.2 && okL (mgStep m e.1 e.2.1 e.2.2).1 l
def outL (m : MS) : List Ev → List Bool
  | [] => []
  | e :: l => (mgStep m e.1 e.2.1 e.2.2).2 :: outL (mgStep m e.1 e.2.1 e.2.2).1 l
theorem runL_app : ∀ (l k : List Ev) (m : MS), runL m (l ++ k) = runL (runL m l) k
  | [], _, _ => rfl
  | e :: l, k, m => by simp only [List.cons_append, runL]; exact runL_app l k _
theorem okL_app : ∀ (l k : List Ev) (m : MS), okL m (l ++ k) = (okL m l && okL (runL m l) k)
  | [], _, _ => by simp [okL, runL]
  | e :: l, k, m => by simp only [List.cons_append, okL, runL]; rw [okL_app l k, Bool.and_assoc]
theorem outL_app : ∀ (l k : List Ev) (m : MS), outL m (l ++ k) = outL m l ++ outL (runL m l) k
  | [], _, _ => rfl
  | e :: l, k, m => by simp only [List.cons_append, outL, runL]; rw [outL_app l k]
/-- the list as functions -/
def nF (L : List Ev) (j : Nat) : Int := (L.getD j (0, 0, 0)).1
def qF (L : List Ev) (j : Nat) : Int := (L.getD j (0, 0, 0)).2.1
def tF (L : List Ev) (j : Nat) : Int := (L.getD j (0, 0, 0)).2.2
theorem lists (skew : Int) (L : List Ev) : ∀ {k : Nat}, k ≤ L.length →
    mst skew (nF L) (qF L) (tF L) k = runL ⟨.new skew, 0, fun _ => 0, fun _ => false⟩ (L.take k) ∧ mout skew (nF L) (qF L) (tF L) k = outL ⟨.new skew, 0, fun _ => 0, fun _ => false⟩ (L.take k) ∧
    allOk skew (nF L) (qF L) (tF L) k = okL ⟨.new skew, 0, fun _ => 0, fun _ => false⟩ (L.take k)
  | 0, _ => ⟨rfl, rfl, rfl⟩
  | k + 1, h => by
    obtain ⟨h1, h2, h3⟩ := lists skew L (k := k) (by omega)
    have he : L[k]? = some (nF L k, qF L k, tF L k) := by
      unfold nF qF tF
      rw [List.getD_eq_getElem?_getD, List.getElem?_eq_getElem (by omega)]
      rfl
    rw [List.take_add_one, he]
    refine ⟨?_, ?_, ?_⟩
    · rw [mst, h1, runL_app]; rfl
    · rw [mout, h1, h2, outL_app]; rfl
    · rw [allOk, h3, okL_app]
      unfold mok
      rw [h1]
      simp [okL]
/-! ### the sender -/
section
variable (st : Int) (G X Y : Nat → Int) (P R : Nat → Bool)
def sq : Nat → Int
  | 0 => st
  | i + 1 => nx (sq i)
def tq : Nat → Int
  | 0 => 0
  | i + 1 => tq i + (20 + G i % 50)
/-- is frame i - 1 lost -/
def lo (P : Nat → Bool) : Nat → Bool
  | 0 => false
  | i + 1 => P i && !lo P i
/-- the arrivals of frame i -/
def ev (i : Nat) : List Ev :=
  (if Y i % 20 < X i % 20 ∧ lo R (i + 1) = false then [(1, sq st i, tq G (i + 1) + Y i % 20)] else []) ++
  ((if lo P (i + 1) = false then [(0, sq st i, tq G (i + 1) + X i % 20)] else []) ++
  (if X i % 20 ≤ Y i % 20 ∧ lo R (i + 1) = false then [(1, sq st i, tq G (i + 1) + Y i % 20)] else []))
def evs : Nat → List Ev
  | 0 => []
  | i + 1 => evs i ++ ev st G X Y P R i
/-- the frames that they are of -/
def frs : Nat → List Nat
  | 0 => []
  | i + 1 => frs i ++ (ev st G X Y P R i).map fun _ => i
/-- does each differ from the one before -/
def fsts (p : Option Nat) : List Nat → List Bool
  | [] => []
  | f :: l => decide (p ≠ some f) :: fsts (some f) l
end
variable {st S : Int} {G X Y : Nat → Int} {P R : Nat → Bool}
theorem sq_bd (h0 : 0 ≤ st) (h1 : st ≤ 255) : ∀ i, 0 ≤ sq st i ∧ sq st i ≤ 255
  | 0 => ⟨h0, h1⟩
  | i + 1 => by
    have := sq_bd h0 h1 i
    rw [sq]
    unfold nx
    rw [if_pos (isN_mk this.1 this.2)]
    split <;> omega
theorem sq_form (h0 : 0 ≤ st) (h1 : st ≤ 255) : ∀ i : Nat, sq st (i + 1) = (st + i) % 255 + 1
  | 0 => by
    rw [sq, sq]
    unfold nx
    rw [if_pos (isN_mk h0 h1)]
    split <;> omega
  | i + 1 => by
    have h := sq_form h0 h1 i
    have hb := sq_bd h0 h1 (i + 1)
    rw [sq, nx, if_pos (isN_mk hb.1 hb.2), h]
    split <;> omega
theorem sq_far (h0 : 0 ≤ st) (h1 : st ≤ 255) {f i : Nat} (hf : f < i) (h : sq st f = sq st i) : f + 255 ≤ i := by
  obtain ⟨i, rfl⟩ : ∃ j, i = j + 1 := ⟨i - 1, by omega⟩
  rw [sq_form h0 h1 i] at h
  cases f with
  | zero =>
    rw [sq] at h
    omega
  | succ f =>
    rw [sq_form h0 h1 f] at h
    omega
theorem tq_far (hG : ∀ i, 0 ≤ G i) {f : Nat} : ∀ d : Nat, tq G f + 20 * d ≤ tq G (f + d)
  | 0 => by simp
  | d + 1 => by
    have := tq_far hG (f := f) d
    have := hG (f + d)
    rw [← Nat.add_assoc, tq]
    push_cast
    omega
theorem tq_bd (hG : ∀ i, 0 ≤ G i) : ∀ i : Nat, 0 ≤ tq G i ∧ tq G i ≤ 69 * i
  | 0 => by simp [tq]
  | i + 1 => by
    have := tq_bd hG i
    have := hG i
    rw [tq]
    push_cast
    omega
/-- what a network's filter holds ahead of frame i -/
def NetI (st : Int) (l : Nat → Bool) (i : Nat) (so : Bool) (p : Int) : Prop := so = false ∨ (1 ≤ i ∧ p = sq st (i - 1)) ∨ (2 ≤ i ∧ l i = true ∧ p = sq st (i - 2))
theorem NetI.adm {l : Nat → Bool} {i : Nat} {so : Bool} {p : Int} (h : NetI st l i so p) : adm so p (sq st i) = true := by
  unfold Ytllabfbebidjiaa.adm
  rcases h with rfl | ⟨h1, rfl⟩ | ⟨h1, _, rfl⟩
  · rfl
  · obtain ⟨j, rfl⟩ : ∃ j, i = j + 1 := ⟨i - 1, by omega⟩
    rw [Nat.add_sub_cancel, sq]
    simp
  · obtain ⟨j, rfl⟩ : ∃ j, i = j + 2 := ⟨i - 2, by omega⟩
    rw [Nat.add_sub_cancel, sq, sq]
    simp
theorem NetI.got {l : Nat → Bool} {i : Nat} : NetI st l (i + 1) true (sq st i) := .inr (.inl ⟨by omega, rfl⟩)
theorem NetI.lost {i : Nat} {so : Bool} {p : Int} (h : NetI st (lo P) i so p) (hl : lo P (i + 1) = true) : NetI st (lo P) (i + 1) so p := by
  rcases h with h | ⟨h1, h2⟩ | ⟨h1, h2, _⟩
  · exact .inl h
  · exact .inr (.inr ⟨by omega, hl, by rw [h2]; congr 1⟩)
  · rw [lo, h2] at hl
    simp at hl
end Go.Proofs.Ytllabfbebidjiaa
