/-
  Slices of calls and of arrivals (three ints each) that came in: what their cells hold. No condition.
-/
import Derived.Test.YtllabfbebidjiaaS7
namespace Go.Proofs.Ytllabfbebidjiaa
open Go.RowKit Go.ChangeShapes Go.WideShapes Go.Deep
theorem three_in {H : Type} {enc : TypeId × Value → H} {w : World} {held : Bool} {t e : TypeId} {fs : Array Field} {A : Option Addr} {len cap fuel : Nat} {x : DataW H × List MemPlace} (ht : Try.prog.underlying t = some (.slice e)) (he : Try.prog.underlying e = some (.struct fs))
    (hone : oneCellFields Try.prog fs = true) (hC : Try.prog.cellsOf e = fs.size) (h3 : fs.toList.map Field.type = [3, 3, 3])
    (h : DataW.trod enc Try.prog w 0 (fun _ => true) held fuel t [.slice A len cap] = some x) : ∃ N Q T, ArrIn w A len N Q T := by
  have hs : fs.size = 3 := by rw [← Array.length_toList]; simpa using congrArg List.length h3
  have hty : ∀ (j : Nat) (f : Field), fs[j]? = some f → f.type = 3 := fun j f hj => by
    have h1 : (fs.toList.map Field.type)[j]? = some f.type := by simp [hj]
    rw [h3] at h1
    match j, h1 with
    | 0, h1 => exact (by simpa using h1.symm)
    | 1, h1 => exact (by simpa using h1.symm)
    | 2, h1 => exact (by simpa using h1.symm)
  obtain ⟨hm, hc⟩ := fields_in ht he hone hC (by omega) h
  unfold maxLen at hm
  rw [hs] at hc
  rcases Nat.eq_zero_or_pos len with h0 | h0
  · exact ⟨fun _ => 0, fun _ => 0, fun _ => 0, by omega, fun h => by omega⟩
  obtain ⟨b, off, rfl, hb, hi⟩ := hc h0
  have each : ∀ k, k < len → ∃ q : Int × Int × Int, w.cell? ⟨b, off + k * 3, none⟩ = some (.int .i64 q.1) ∧ w.cell? ⟨b, off + k * 3 + 1, none⟩ = some (.int .i64 q.2.1) ∧ w.cell? ⟨b, off + k * 3 + 2, none⟩ = some (.int .i64 q.2.2) := fun k hk => by
    have one : ∀ j, j < 3 → ∃ m, w.cell? ⟨b, off + (k * 3 + j), none⟩ = some (.int .i64 m) := fun j hj => by
      obtain ⟨f, hf⟩ : ∃ f, fs[j]? = some f := ⟨fs[j]'(by omega), Array.getElem?_eq_getElem (by omega)⟩
      obtain ⟨v, y, n, c, t⟩ := hi k hk j f hf
      rw [hty j f hf] at t
      obtain ⟨m, e, _, _⟩ := DataW.trod_int Try.underlying3 t
      simp only [List.cons.injEq, and_true] at e
      subst e
      exact ⟨m, c⟩
    obtain ⟨m0, c0⟩ := one 0 (by omega)
    obtain ⟨m1, c1⟩ := one 1 (by omega)
    obtain ⟨m2, c2⟩ := one 2 (by omega)
    exact ⟨(m0, m1, m2), c0, c1, c2⟩
  obtain ⟨q, hq⟩ := choose_lt each
  exact ⟨fun k => (q k).1, fun k => (q k).2.1, fun k => (q k).2.2, by omega, fun _ => ⟨b, off, rfl, hb, hq⟩⟩
theorem calls_in {H : Type} {enc : TypeId × Value → H} {w : World} {held : Bool} {A : Option Addr} {len cap fuel : Nat} {x : DataW H × List MemPlace}
    (h : DataW.trod enc Try.prog w 0 (fun _ => true) held fuel 38 [.slice A len cap] = some x) : ∃ N Q T, ArrIn w A len N Q T :=
  three_in Try.underlying38 Try.underlying44 (by kernel_rfl) (by kernel_rfl) rfl h
theorem arrs_in {H : Type} {enc : TypeId × Value → H} {w : World} {held : Bool} {A : Option Addr} {len cap fuel : Nat} {x : DataW H × List MemPlace}
    (h : DataW.trod enc Try.prog w 0 (fun _ => true) held fuel 22 [.slice A len cap] = some x) : ∃ N Q T, ArrIn w A len N Q T :=
  three_in Try.underlying22 Try.underlying31 (by kernel_rfl) (by kernel_rfl) rfl h
/-- Offer at the selector, with what is kept -/
theorem offer_below {b : Nat} {w0 w w' : World} (hb : Below w0.heap.size w0 w) (hg : w.grownBy w' (some b)) (hB : w0.heap.size ≤ b) : Below w0.heap.size w0 w' := hb.grown hg hb.size (fun i e => by injection e with e; omega)
end Go.Proofs.Ytllabfbebidjiaa
