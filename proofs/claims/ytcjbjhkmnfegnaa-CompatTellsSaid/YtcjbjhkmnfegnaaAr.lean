/-
  The array of 256 ints as a block: its zero value, its cells, a store into it, its load whole. No condition.
-/
import Derived.Test.YtcjbjhkmnfegnaaIt
import Derived.Deep.MidRow
namespace Go.Proofs.Ytcjbjhkmnfegnaa
open Go.RowKit
def Z57 : Array Value := Array.replicate 256 (.int .i64 0)
theorem zero57 (w : World) : (zeroValue 57).run Try.prog w = .ok (.agg Z57) w := by kernel_rfl
def bv (b : Bool) : Int := if b = true then 1 else 0
/-- block g holds the array whose element i is 1 where f i, else 0 -/
def Arr (w : World) (g : Nat) (f : Nat → Bool) : Prop := g < w.heap.size ∧ ∀ i, i < 256 → w.cell? ⟨g, i, none⟩ = some (.int .i64 (bv (f i))) ∧ w.frozen? ⟨g, i, none⟩ = false
theorem Arr.zero {w : World} {g : Nat} (h : Blk w g 57 Z57) : Arr w g (fun _ => false) :=
  ⟨h.lt, fun i hi => ⟨by rw [h.cell]; simp [Z57, hi, bv], h.free i⟩⟩
theorem Arr.of_block {w w' : World} {g : Nat} {f : Nat → Bool} (h : Arr w g f) (hb : w'.heap[g]? = w.heap[g]?) : Arr w' g f := by
  refine ⟨?_, fun i hi => ⟨(World.cell?_of_block (a := ⟨g, i, none⟩) hb).trans (h.2 i hi).1, ?_⟩⟩
  · have := Array.getElem?_eq_getElem h.1
    rw [this] at hb
    exact (Array.getElem?_eq_some_iff.1 hb).1
  · have := (h.2 i hi).2
    simp only [World.frozen?] at this ⊢
    rw [hb]
    exact this
theorem Arr.put {w : World} {g : Nat} {f : Nat → Bool} (h : Arr w g f) (i : Nat) (b : Bool) (hi : i < 256) : Arr (w.setCell ⟨g, i, none⟩ (.int .i64 (bv b))) g (fun j => if j = i then b else f j) := by
  refine ⟨by simpa using h.1, fun j hj => ⟨?_, ?_⟩⟩
  · by_cases e : j = i
    · subst e
      simp only [if_true]
      exact World.cell?_setCell_same _ _ _ (h.2 j hj).1
    · simp only [if_neg e]
      rw [World.cell?_setCell_other _ _ _ _ (by intro e2; injection e2 with _ e2; exact e e2.symm)]
      exact (h.2 j hj).1
  · simpa using (h.2 j hj).2
theorem Arr.congr {w : World} {g : Nat} {f f' : Nat → Bool} (h : Arr w g f) (e : ∀ i, i < 256 → f i = f' i) : Arr w g f' := ⟨h.1, fun i hi => by rw [← e i hi]; exact h.2 i hi⟩
/-- the array as a value -/
def aV (f : Nat → Bool) : List Value := (List.range 256).map fun i => .int .i64 (bv (f i))
theorem aV_len (f : Nat → Bool) : (aV f).length = 256 := by simp [aV]
theorem aV_at (f : Nat → Bool) {i : Nat} (hi : i < 256) : (aV f)[i]? = some (.int .i64 (bv (f i))) := by simp [aV, hi]
theorem aV_one (f : Nat → Bool) : ∀ v ∈ aV f, v.oneCell' = true := by
  intro v hv
  simp only [aV, List.mem_map] at hv
  obtain ⟨i, _, rfl⟩ := hv
  rfl
theorem Arr.range {w : World} {g : Nat} {f : Nat → Bool} (h : Arr w g f) : w.rangeAt g 0 (aV f) := fun j v hv => by
  have hj : j < 256 := by have := (List.getElem?_eq_some_iff.1 hv).1; rwa [aV_len] at this
  rw [aV_at f hj] at hv
  cases hv
  rw [Nat.zero_add]
  exact (h.2 j hj).1
theorem Arr.load {w : World} {g : Nat} {f : Nat → Bool} (h : Arr w g f) : (Instr.loadAt 57 (.pointer (some ⟨g, 0, none⟩))).run Try.prog w = .ok (.agg (aV f).toArray) w :=
  run_loadAt_mid w g 0 57 (aV f) _ h.range Try.underlying57 rfl (by rw [aV_len]; kernel_rfl)
end Go.Proofs.Ytcjbjhkmnfegnaa
