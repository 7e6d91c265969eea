/-
  The law CompatWrong, in the shape that its last text asks for: the form's own reach bounds the names' lengths.
-/
import Derived.Test.YtcjbjhkmnfegnaaLawW
import Derived.Test.YtcjbjhkmnfegnaaLawBx
import Derived.SizedLaws
namespace Go.Proofs.Ytcjbjhkmnfegnaa
open Go.RowKit Go.ChangeShapes Go.WideShapes Go.Deep
theorem weightsAll_mem {H : Type} {P : Program} {e : TypeId} {d : DataW H} : ∀ {l : List (DataW H)}, d ∈ l → ∀ n ∈ d.weights P e, n ∈ DataW.weightsAll P e l
  | a :: l, h, n, hn => by
    rw [DataW.weightsAll, List.mem_append]
    rcases List.mem_cons.1 h with rfl | h
    · exact .inl hn
    · exact .inr (weightsAll_mem h n hn)
/-- a slice of units that came in, within the form's reach -/
def UnitsSz (w : World) (A : Option Addr) (n c : Nat) (S : Nat → U) : Prop := UnitsOk w A n c S ∧ n ≤ 140737488355328 ∧ ∀ k, k < n → (S k).1.size ≤ 140737488355328
theorem units_sized {H : Type} {enc : TypeId × Value → H} {w : World} {held : Bool} {A : Option Addr} {len cap fuel : Nat} {d : DataW H} {pl : List MemPlace}
    (h : DataW.trod enc Try.prog w 0 (fun _ => true) held fuel 23 [.slice A len cap] = some (d, pl)) (hw : ∀ n ∈ d.weights Try.prog 23, n ≤ reachBytes) : ∃ S, UnitsSz w A len cap S := by
  obtain ⟨S, hS⟩ := units_ok h
  have hr : reachBytes ≤ 140737488355328 := by decide
  rcases open_slice Try.underlying23 h with ⟨h0, _⟩ | ⟨a, l, c, m, n, D, Pl, hcs, _, hl, hm, hmm, hx, hi⟩
  · simp only [List.cons.injEq, Value.slice.injEq, and_true] at h0
    obtain ⟨rfl, rfl, rfl⟩ := h0
    exact ⟨S, hS, by omega, fun k hk => by omega⟩
  · simp only [List.cons.injEq, Value.slice.injEq, and_true] at hcs
    obtain ⟨rfl, rfl, rfl⟩ := hcs
    simp only [if_true] at hmm
    subst hmm
    simp only [Prod.mk.injEq] at hx
    obtain ⟨rfl, _⟩ := hx
    have h40 : Try.prog.cellsOf 40 = 2 := by kernel_rfl
    have hb40 : Try.prog.bytesOf 40 = 24 := by kernel_rfl
    have hwt : ∀ (el sp : List (DataW H)), (DataW.slice el sp).weights Try.prog 23 = (el.length + sp.length) * Try.prog.bytesOf 40 :: (DataW.weightsAll Try.prog 40 el ++ DataW.weightsAll Try.prog 40 sp) := fun el sp => by
      rw [DataW.weights, Try.underlying23]
    rw [hwt] at hw
    refine ⟨S, hS, ?_, fun k hk => ?_⟩
    · have := hw _ (List.mem_cons_self ..)
      rw [hb40] at this
      simp only [List.length_map, List.length_range] at this
      omega
    · obtain ⟨cs', h1, h2⟩ := hi k (by omega)
      rw [h40] at h1
      obtain ⟨_, hcl, hat⟩ := World.cells?_some h1
      obtain ⟨y0, y1, n', hD, _, hy0, hy1⟩ := trod_struct2 Try.underlying40 h2
      obtain ⟨s, e0, hy, _⟩ := DataW.trod_string Try.underlying9 hy0
      have h9 : Try.prog.cellsOf 9 = 1 := by kernel_rfl
      have e0' : cs'[0]? = some (.string s) := by
        rw [h9] at e0
        have : (cs'.drop 0).take 1 = [.string s] := e0
        rw [List.drop_zero] at this
        have h3 : (cs'.take 1)[0]? = some (.string s) := by rw [this]; rfl
        simpa using h3
      obtain ⟨b, off, hA, _, hc⟩ := hS.2.2.1.2 (by omega)
      injection hA with hA
      subst hA
      have c0 := (hc k hk).1
      have c1 := hat 0 (by omega)
      rw [add_eq, add_eq, Nat.add_zero, c0, e0'] at c1
      injection c1 with c1
      injection c1 with c1
      rw [c1]
      have hsz : s.size = s.data.toList.length := by rw [Array.length_toList]; rfl
      rw [hsz]
      refine Nat.le_trans (hw _ (List.mem_cons_of_mem _ (List.mem_append.2 (.inl (weightsAll_mem (d := D k) (List.mem_map.2 ⟨k, List.mem_range.2 hk, rfl⟩) _ ?_))))) hr
      have hDk : D k = .agg [y0.1, y1.1] := congrArg Prod.fst hD
      rw [hDk, hy, DataW.weights, Try.underlying40]
      show s.data.toList.length ∈ DataW.weightsEach Try.prog [9, 3] [.lit (.string s.data.toList), y1.1]
      rw [DataW.weightsEach, DataW.weights]
      exact List.mem_append.2 (.inl (List.mem_singleton.2 rfl))
theorem lawWrongAt (A1 : Option Addr) (n c1 : Nat) (S : Nat → U) (A2 : Option Addr) (n2 c2 : Nat) (T : Nat → U) (way bi : Int) (w : World) (hS : UnitsSz w A1 n c1 S) (hT : UnitsSz w A2 n2 c2 T) (hw0 : 0 ≤ way) (_hw1 : way ≤ 255) :
    Calls Try.prog 7 #[.slice A1 n c1, .slice A2 n2 c2, .int .u8 way, .int .i64 bi] w fun e w' => e = .returned (.bool true) ∧ Below w.heap.size w w' :=
  lawWrong A1 A2 n c1 n2 c2 S T way bi w hS.1.2.2.1 hT.1.2.2.1 hS.1.2.2.2 hT.1.2.2.2 hS.2.1 hS.2.2 hw0
end Go.Proofs.Ytcjbjhkmnfegnaa
