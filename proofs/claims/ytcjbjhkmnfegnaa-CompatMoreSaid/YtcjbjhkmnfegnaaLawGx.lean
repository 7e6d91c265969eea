/-
  The law CompatMore: at a change and at none, and in the shape that its last text asks for.
-/
import Derived.Test.YtcjbjhkmnfegnaaLawG
import Derived.Test.YtcjbjhkmnfegnaaLawBx
import Derived.Lib.SmallJoins
namespace Go.Proofs.Ytcjbjhkmnfegnaa
open Go.RowKit Go.ChangeShapes Go.WideShapes Go.Deep Go.Shelf
set_option maxRecDepth 100000 in
set_option maxHeartbeats 2000000 in
theorem lawMore (A1 A2 A3 : Option Addr) (m c3 n c1 n2 c2 : Nat) (Rw : Nat → R) (S T : Nat → U) (r : R) (w : World) (hR : RowsIn w A3 m Rw) (hz : A3 = none → m = 0 ∧ c3 = 0) (hS : UnitsIn w A1 n S) (hT : UnitsIn w A2 n2 T) (hF : Fits S n) (hc1 : n ≤ c1) (hn : n ≤ 9223372036854775807) :
    Calls Try.prog 5 #[.slice A3 m c3, .slice A1 n c1, .slice A2 n2 c2, rV r] w fun e w' => e = .returned (.bool true) ∧ Below w.heap.size w w' := by
  by_cases hm : 20 < m
  · obtain ⟨⟨an, av⟩, ⟨un, uv⟩⟩ := r
    have g0 : decide (20 < m) = true := decide_eq_true hm
    obtain ⟨W, hW⟩ : ∃ W, w.alloc (.cells #[.string an, .int .i64 av, .string un, .int .i64 uv] 37) = W := ⟨_, rfl⟩
    have kW : Below w.heap.size w W := by rw [← hW]; exact (Below.refl _ _).alloc (Nat.le_refl _) _
    have HW := Lib.hid hW
    have KW := Lib.hid kW
    clear hW kW
    go_enter Try.func5, Try.ntmps5
    go_wp2_with fail
    rw [HW.out]
    refine (awake_any W).mono ?_
    rintro e w1 ⟨rfl, k1⟩
    have K1 := Lib.hid (KW.out.trans (k1.mono KW.out.size))
    clear k1
    go_wp2_with fail
    go_ret
    exact ⟨rfl, K1.out⟩
  · cases hv : chg n n2 S T with
    | false =>
      refine lawMore_core (fun _ _ => none) 2 (.inl rfl) A1 A2 A3 m c3 n c1 n2 c2 Rw r w hR hz (by omega) (fun V A m' c' X hV hX => ?_) rfl rfl (fun _ h => h) (fun p h => by cases h)
      refine (order_bad2 A1 A2 A n c1 n2 c2 m' c' S T V (hS.below hV (Nat.le_refl _)) (hT.below hV (Nat.le_refl _)) hF hn hv).mono ?_
      rintro e w' ⟨rfl, k⟩
      exact ⟨k, none, 0, rfl, fun h => absurd h (by simp)⟩
    | true =>
      obtain ⟨h8, rfl, _, _⟩ := chg_parts hv
      refine lawMore_core (fun m' X => OrdR m' X n S T) 6 (.inr rfl) A1 A2 A3 m c3 n c1 n c2 Rw r w hR hz (by omega) (fun V A m' c' X hV hX => ?_) (OrdR_eq works_flip) (OrdR_eq works_twice) (fun hc h => OrdR_le h8 (works_more hc) h) (fun p h => ?_)
      · exact (order_any A1 A2 A n c1 c2 m' c' S T X V (hS.below hV (Nat.le_refl _)) (hT.below hV (Nat.le_refl _)) hX hF hc1 hv).mono fun e w' h => h.ot
      · have h2 : OrdR m Rw n S T = some p := h
        unfold OrdR at h2
        split at h2
        · have := (ordF_gp h2).bits h8
          omega
        · cases h2
def RowsNil (w : World) (A : Option Addr) (m c : Nat) (Rw : Nat → R) : Prop := RowsIn w A m Rw ∧ (A = none → m = 0 ∧ c = 0)
theorem rows_nil {H : Type} {enc : TypeId × Value → H} {w : World} {held : Bool} {A : Option Addr} {len cap fuel : Nat} {x : DataW H × List MemPlace}
    (h : DataW.trod enc Try.prog w 0 (fun _ => true) held fuel 22 [.slice A len cap] = some x) : ∃ Rw, RowsNil w A len cap Rw := by
  obtain ⟨_, _, Rw, hA⟩ := rows_in h
  refine ⟨Rw, hA, fun hn => ?_⟩
  rcases open_slice Try.underlying22 h with ⟨h0, _⟩ | ⟨a, l, c, m, n, D, Pl, hcs, _⟩
  · simp only [List.cons.injEq, Value.slice.injEq, and_true] at h0
    exact ⟨h0.2.1, h0.2.2⟩
  · simp only [List.cons.injEq, Value.slice.injEq, and_true] at hcs
    rw [hcs.1] at hn
    cases hn
/-- a row that came in -/
theorem row_in {H : Type} {enc : TypeId × Value → H} {w : World} {base : Nat} {sp : Nat → Bool} {held : Bool} {fuel : Nat} {v : Value} {r : Reach} {b0 : Nat} {x : DataW H × List MemPlace}
    (hv : Value.okWide Try.prog w r b0 37 v) (h : DataW.trod enc Try.prog w base sp held fuel 37 v.cells.toList = some x) : ∃ q : R, v = rV q := by
  obtain ⟨cs, rfl, hsz⟩ := okWide_struct Try.underlying37 hv
  rw [show Try.prog.cellsOf 37 = 4 from by kernel_rfl] at hsz
  obtain ⟨l⟩ := cs
  match l, hsz with
  | [c0, c1, c2, c3], _ =>
  obtain ⟨y0, y1, y2, y3, m, hx, _, hy0, hy1, hy2, hy3⟩ := Go.Joins.trod_struct4 Try.underlying37 h
  obtain ⟨a0, e0, _, _⟩ := DataW.trod_string Try.underlying9 hy0
  obtain ⟨a1, e1, _, _⟩ := DataW.trod_int Try.underlying3 hy1
  obtain ⟨a2, e2, _, _⟩ := DataW.trod_string Try.underlying9 hy2
  obtain ⟨a3, e3, _, _⟩ := DataW.trod_int Try.underlying3 hy3
  have h9 : Try.prog.cellsOf 9 = 1 := by kernel_rfl
  have h3 : Try.prog.cellsOf 3 = 1 := by kernel_rfl
  have e0' : c0 = .string a0 := by simpa [Value.cells, h9] using e0
  have e1' : c1 = .int .i64 a1 := by simpa [Value.cells, h3] using e1
  have e2' : c2 = .string a2 := by simpa [Value.cells, h9] using e2
  have e3' : c3 = .int .i64 a3 := by simpa [Value.cells, h3] using e3
  exact ⟨((a0, a1), (a2, a3)), by rw [e0', e1', e2', e3']⟩
theorem lawMoreAt (A3 : Option Addr) (m c3 : Nat) (Rw : Nat → R) (A1 : Option Addr) (n c1 : Nat) (S : Nat → U) (A2 : Option Addr) (n2 c2 : Nat) (T : Nat → U) (r : R) (w : World) (hR : RowsNil w A3 m c3 Rw) (hS : UnitsOk w A1 n c1 S) (hT : UnitsOk w A2 n2 c2 T) :
    Calls Try.prog 5 #[.slice A3 m c3, .slice A1 n c1, .slice A2 n2 c2, rV r] w fun e w' => e = .returned (.bool true) ∧ Below w.heap.size w w' :=
  lawMore A1 A2 A3 m c3 n c1 n2 c2 Rw S T r w hR.1 hR.2 hS.2.2.1 hT.2.2.1 hS.2.2.2 hS.1 (Nat.le_trans hS.1 hS.2.1)
end Go.Proofs.Ytcjbjhkmnfegnaa
