/-
  A function whose loop holds a loop over an iterator function: the marks that its frame gathers, a block each for deferred calls that nobody made; they are spent where the function ends. Over whatever program; no condition.
-/
import Derived.Test.YtcjbjhkmnfegnaaMem
import Derived.Test.YtcjbjhkmnfegnaaRF
namespace Go.Proofs.Ytcjbjhkmnfegnaa
open Go Go.RowKit
/-- the marks stand at blocks of their own, from block B on, with no deferred call -/
def Marks (B : Nat) : List Deferred → World → Prop
  | [], _ => True
  | d :: ds, W => (∃ D, d.target = .collected D ∧ B ≤ D ∧ W.heap[D]? = some (.deferred (some [])) ∧ ∀ e ∈ ds, e.target ≠ .collected D) ∧ Marks B ds W
theorem Marks.keep {B : Nat} : ∀ {ds : List Deferred} {W W' : World}, Marks B ds W → (∀ e ∈ ds, ∀ D, e.target = .collected D → B ≤ D → W.heap[D]? = some (.deferred (some [])) → W'.heap[D]? = some (.deferred (some []))) → Marks B ds W'
  | [], _, _, _, _ => trivial
  | d :: ds, W, W', ⟨⟨D, h1, h2, h3, h4⟩, h5⟩, hk => ⟨⟨D, h1, h2, hk d (by simp) D h1 h2 h3, h4⟩, h5.keep (fun e he => hk e (List.mem_cons_of_mem _ he))⟩
theorem Marks.lt {B : Nat} : ∀ {ds : List Deferred} {W : World}, Marks B ds W → ∀ e ∈ ds, ∀ D, e.target = .collected D → D < W.heap.size
  | [], _, _, e, he, _, _ => by cases he
  | d :: ds, W, ⟨⟨D, h1, h2, h3, h4⟩, h5⟩, e, he, D', hD => by
    rcases List.mem_cons.1 he with rfl | he
    · rw [h1] at hD
      cases hD
      exact (Array.getElem?_eq_some_iff.1 h3).1
    · exact h5.lt e he D' hD
/-- through steps that write cells, make blocks, and turn other objects from block E on -/
theorem Marks.grown {B : Nat} {ds : List Deferred} {W W' : World} {row : Option Nat} (h : Marks B ds W) (hg : W.grownBy W' row) (hr : ∀ r, row = some r → W.heap[r]? ≠ some (.deferred (some []))) : Marks B ds W' :=
  h.keep fun _ _ D _ _ hW => (hg.block D (Array.getElem?_eq_some_iff.1 hW).1 (fun e2 => hr D e2.symm hW)).trans hW
theorem Marks.others {B : Nat} {ds : List Deferred} {W W' : World} (h : Marks B ds W) (hk : KeepsOthers W W') : Marks B ds W' := h.keep fun _ _ D _ _ hW => hk.same D _ hW rfl
theorem Marks.below {B : Nat} {ds : List Deferred} {W W' : World} (h : Marks B ds W) (hk : Below W.heap.size W W') : Marks B ds W' := h.keep fun _ _ D _ _ hW => (hk.block D (Array.getElem?_eq_some_iff.1 hW).1).trans hW
theorem Marks.push {B D : Nat} {ds : List Deferred} {W0 W : World} {args : Array Value} (h0 : Marks B ds W0) (hD : W0.heap.size ≤ D) (hB : B ≤ D) (h : Marks B ds W) (hW : W.heap[D]? = some (.deferred (some []))) : Marks B ({ target := .collected D, args := args } :: ds) W :=
  ⟨⟨D, rfl, hB, hW, fun e he e2 => by have := h0.lt e he D e2; omega⟩, h⟩
theorem Marks.own {β : Type} {B E : Nat} {ds : List Deferred} (hE : ∀ e ∈ ds, ∀ D, e.target = .collected D → D < E) : OwnFrom E (fun (_ : β) W => Marks B ds W) :=
  fun _ X Y row hs hg hr => hs.keep fun e he D hD _ hW => (hg.block D (Array.getElem?_eq_some_iff.1 hW).1 (fun e2 => by have h1 := (hr D e2.symm).1; have h2 := hE e he D hD; omega)).trans hW
/-- the marks spent: nothing below block B has turned, nor any block of cells -/
def Spent (B : Nat) (W W' : World) : Prop := Below B W W' ∧ ∀ (k : Nat) cs t fr, W.heap[k]? = some (Obj.cells cs t fr) → W'.heap[k]? = W.heap[k]?
theorem Spent.refl (B : Nat) (W : World) : Spent B W W := ⟨Below.refl _ _, fun _ _ _ _ _ => rfl⟩
theorem marks_leave {F : Fence} {n : Nat} {P : Program} {fn : Func} {tmps : Array Value} {Rt : Ending → World → Prop} {B : Nat} : ∀ (ds : List Deferred) (W : World), Marks B ds W →
    (∀ W', Spent B W W' → ∃ v, (results fn tmps).run P W' = .ok v W' ∧ Rt (.returned v) W') → LeavesInM F n P fn tmps Rt ds .returning W
  | [], W, _, h => h W (Spent.refl _ _)
  | d :: ds, W, ⟨⟨D, h1, h2, h3, h4⟩, h5⟩, h => by
    refine ⟨by simp, .inl ⟨D, _, h1, run_takeDeferred h3, marks_leave ds _ (h5.keep fun e he D' hD' _ hW => ?_) fun W' hs => h W' ⟨?_, fun k cs t fr hk => ?_⟩⟩⟩
    · exact (World.putObj_heap_other (fun e2 => h4 e he (by rw [hD', e2]))).trans hW
    · refine Below.trans ?_ hs.1
      have hlt := (Array.getElem?_eq_some_iff.1 h3).1
      refine ⟨rfl, rfl, rfl, by simp, fun k hk => World.putObj_heap_other (by omega)⟩
    · have hne : k ≠ D := fun e2 => by subst e2; rw [h3] at hk; cases hk
      have h6 : (W.putObj D (.deferred none)).heap[k]? = some (.cells cs t fr) := (World.putObj_heap_other hne).trans hk
      exact (hs.2 k cs t fr h6).trans (h6.trans hk.symm)
end Go.Proofs.Ytcjbjhkmnfegnaa
