/-
  Slices that came in, of structs of one-cell fields and of bools: what each cell holds. Over whatever program; no condition.
-/
import Derived.Test.YtcjbjhkmnfegnaaMem
import Derived.Deep.Slices
import Derived.Deep.Fields
import Derived.Deep.Grids
import Derived.ChangeSame
import Derived.OpenShut
namespace Go.Proofs.Ytcjbjhkmnfegnaa
open Go.RowKit Go.ChangeShapes Go.WideShapes Go.Deep
theorem add_eq (b off k : Nat) : (⟨b, off, none⟩ : Addr).add k = ⟨b, off + k, none⟩ := by
  unfold Addr.add
  split
  · next h => subst h; rfl
  · rfl
section
variable {H : Type} {enc : TypeId × Value → H} {P : Program} {w : World} {held : Bool}
theorem fields_in {t e : TypeId} {fs : Array Field} {A : Option Addr} {len cap fuel : Nat} {x : DataW H × List MemPlace} (ht : P.underlying t = some (.slice e)) (he : P.underlying e = some (.struct fs))
    (hone : oneCellFields P fs = true) (hC : P.cellsOf e = fs.size) (hs : 0 < fs.size) (h : DataW.trod enc P w 0 (fun _ => true) held fuel t [.slice A len cap] = some x) :
    len ≤ cap ∧ cap ≤ maxLen ∧ (0 < len → ∃ b off, A = some ⟨b, off, none⟩ ∧ b < w.heap.size ∧ ∀ i, i < len → ∀ j f, fs[j]? = some f →
      ∃ v y n, w.cell? ⟨b, off + (i * fs.size + j), none⟩ = some v ∧ DataW.trod enc P w 0 (fun _ => true) held n f.type [v] = some y) := by
  rcases open_slice ht h with ⟨h0, _⟩ | ⟨a, l, c, m, n, D, Pl, hcs, _, hl, hm, hmm, _, hi⟩
  · simp only [List.cons.injEq, Value.slice.injEq, and_true] at h0
    obtain ⟨rfl, rfl, rfl⟩ := h0
    exact ⟨by omega, by unfold maxLen; omega, fun h => by omega⟩
  · simp only [List.cons.injEq, Value.slice.injEq, and_true] at hcs
    obtain ⟨rfl, rfl, rfl⟩ := hcs
    simp only [if_true] at hmm
    subst hmm
    refine ⟨hl, hm, fun h0 => ?_⟩
    have each : ∀ i, i < len → ∀ j f, fs[j]? = some f → ∃ v y n, w.cell? (a.add (i * fs.size + j)) = some v ∧ DataW.trod enc P w 0 (fun _ => true) held n f.type [v] = some y := fun i him j f hj => by
      obtain ⟨cs', h1, h2⟩ := hi i (by omega)
      rw [hC] at h1
      obtain ⟨ys, n', _, _, _, hyl, hf⟩ := DataW.trod_struct he h2
      obtain ⟨_, hcl, hat⟩ := World.cells?_some h1
      obtain ⟨ho, hk⟩ := hone_of hone j f hj
      have hjl : j < fs.size := (Array.getElem?_eq_some_iff.1 hj).1
      have g := hf j f hj
      rw [ho, hk] at g
      have e1 : (cs'.drop j).take 1 = [cs'[j]'(by omega)] := by rw [List.drop_eq_getElem_cons (by omega)]; rfl
      rw [e1] at g
      have hv : cs'[j]? = some (cs'[j]'(by omega)) := List.getElem?_eq_getElem (by omega)
      have hys : ys[j]? = some (ys[j]'(by omega)) := List.getElem?_eq_getElem (by omega)
      exact ⟨_, _, _, by rw [← add_add, hat j hjl, hv], g.trans hys⟩
    obtain ⟨b, off, spot⟩ := a
    obtain ⟨v, _, _, hc, _⟩ := each 0 h0 0 _ (Array.getElem?_eq_getElem hs)
    have hsp : spot = none := by simpa [Addr.add] using World.cell?_spot hc
    subst hsp
    refine ⟨b, off, rfl, by have := World.block_lt_of_cell? w _ hc; rwa [add_eq] at this, fun i hi j f hj => ?_⟩
    obtain ⟨v, y, n, h1, h2⟩ := each i hi j f hj
    exact ⟨v, y, n, by rw [← add_eq]; exact h1, h2⟩

/-- a slice of bools that came in -/
def Bools (w : World) (A : Option Addr) (n : Nat) (B : Nat → Bool) : Prop :=
  n ≤ 9223372036854775807 ∧ (0 < n → ∃ b off, A = some ⟨b, off, none⟩ ∧ b < w.heap.size ∧ ∀ k, k < n → w.cell? ⟨b, off + k, none⟩ = some (.bool (B k)))
theorem bools_in {t e : TypeId} {A : Option Addr} {len cap fuel : Nat} {x : DataW H × List MemPlace} (ht : P.underlying t = some (.slice e)) (he : P.underlying e = some .bool) (hc : P.cellsOf e = 1)
    (h : DataW.trod enc P w 0 (fun _ => true) held fuel t [.slice A len cap] = some x) : ∃ B, Bools w A len B := by
  rcases open_bools ht he hc h with ⟨h0, _⟩ | ⟨a, l, c, B, hcs, _, hl, hm, _, hi⟩
  · simp only [List.cons.injEq, Value.slice.injEq, and_true] at h0
    obtain ⟨rfl, rfl, rfl⟩ := h0
    exact ⟨fun _ => false, by omega, fun h => by omega⟩
  · simp only [List.cons.injEq, Value.slice.injEq, and_true] at hcs
    obtain ⟨rfl, rfl, rfl⟩ := hcs
    unfold maxLen at hm
    refine ⟨B, by omega, fun h0 => ?_⟩
    obtain ⟨b, off, spot⟩ := a
    have h1 := hi 0 (by omega)
    have hs : spot = none := by simpa [Addr.add] using World.cell?_spot h1
    subst hs
    refine ⟨b, off, rfl, by have := World.block_lt_of_cell? w _ h1; rwa [add_eq] at this, fun k hk => ?_⟩
    have := hi k (by omega)
    rwa [add_eq] at this
theorem Bools.below {w' : World} {A : Option Addr} {n : Nat} {z : Nat → Bool} (h : Bools w A n z) (hb : Below w.heap.size w w') : Bools w' A n z := by
  refine ⟨h.1, fun hn => ?_⟩
  obtain ⟨b, off, hA, hlt, hc⟩ := h.2 hn
  exact ⟨b, off, hA, Nat.lt_of_lt_of_le hlt hb.size, fun k hk => (hb.cell (p := ⟨b, off + k, none⟩) hlt).trans (hc k hk)⟩
end
end Go.Proofs.Ytcjbjhkmnfegnaa
