/-
  The answers of Compatible, Mixed, Reach and Order at whatever sets, each in one sentence. Conditions: at most twelve units, and those that the contracts bear.
-/
import Derived.Test.YtcjbjhkmnfegnaaT6
import Derived.Test.YtcjbjhkmnfegnaaT7
import Derived.Test.YtcjbjhkmnfegnaaT8
namespace Go.Proofs.Ytcjbjhkmnfegnaa
open Go.RowKit Go.Shelf
theorem comp_all (A A2 : Option Addr) (m c n c2 : Nat) (Rw : Nat → R) (S : Nat → U) (w : World) (hR : RowsIn w A m Rw) (hU : UnitsIn w A2 n S) (hF : Fits S n) (hc : n ≤ c2) (hn : n ≤ 12) (vd : Bool) (hv : (decide (n ≤ 8) && dis S n) = vd) :
    Calls Try.prog 13 #[.slice A m c, .slice A2 n c2] w fun e w' => e = .returned (.tuple #[.bool (vd && cmp m Rw S n), .int .i64 (if vd = true then 0 else 2)]) ∧ Below w.heap.size w w' := by
  cases vd with
  | true =>
    refine (compatible_ok A A2 m c n c2 Rw S w hR hU hF hc (by omega) hv).mono fun e w' h => ?_
    rw [Bool.true_and, if_pos rfl]
    exact h
  | false =>
    refine (compatible_bad A A2 m c n c2 S w hU hF (by omega) hv).mono fun e w' h => ?_
    rw [Bool.false_and, if_neg (by simp)]
    exact h
/-- what Mixed answers -/
def MixSay (ch : Bool) (n : Nat) (S T : Nat → U) (bi : Int) (A : Option Addr) (len : Nat) (f : Int) (w : World) : Prop :=
  (ch = false ∧ len = 0 ∧ f = 2) ∨ (ch = true ∧ (bi < 0 ∨ ((2 ^ n : Nat) : Int) ≤ bi) ∧ len = 0 ∧ f = 2) ∨ (ch = true ∧ ∃ b : Nat, bi = b ∧ b < 2 ^ n ∧ len = n ∧ f = 0 ∧ UnitsIn w A n (mx S T b))
theorem MixSay.below {ch : Bool} {n : Nat} {S T : Nat → U} {bi : Int} {A : Option Addr} {len : Nat} {f : Int} {w w' : World} (h : MixSay ch n S T bi A len f w) (hb : Below w.heap.size w w') : MixSay ch n S T bi A len f w' := by
  rcases h with h | h | ⟨h0, b, h1, h2, h3, h4, h5⟩
  · exact .inl h
  · exact .inr (.inl h)
  · exact .inr (.inr ⟨h0, b, h1, h2, h3, h4, h5.below hb (Nat.le_refl _)⟩)
theorem mix_all (A1 A2 : Option Addr) (n c1 n2 c2 : Nat) (S T : Nat → U) (bi : Int) (w : World) (hS : UnitsIn w A1 n S) (hT : UnitsIn w A2 n2 T) (hF : Fits S n) (hn : n ≤ 12) (ch : Bool) (hc : chg n n2 S T = ch) :
    Calls Try.prog 16 #[.slice A1 n c1, .slice A2 n2 c2, .int .i64 bi] w fun e w' => (∃ A len c f, e = .returned (.tuple #[.slice A len c, .int .i64 f]) ∧ MixSay ch n S T bi A len f w') ∧ Below w.heap.size w w' := by
  cases ch with
  | false =>
    refine (mixed_bad A1 A2 n c1 n2 c2 S T bi w hS hT hF (by omega) hc).mono ?_
    rintro e w' ⟨rfl, k⟩
    exact ⟨⟨none, 0, 0, 2, rfl, .inl ⟨rfl, rfl, rfl⟩⟩, k⟩
  | true =>
    by_cases ho : bi < 0 ∨ ((2 ^ n : Nat) : Int) ≤ bi
    · refine (mixed_out A1 A2 n c1 n2 c2 S T bi w hS hT hF hc ho).mono ?_
      rintro e w' ⟨rfl, k⟩
      exact ⟨⟨none, 0, 0, 2, rfl, .inr (.inl ⟨rfl, ho, rfl, rfl⟩)⟩, k⟩
    · obtain ⟨N, hN⟩ : ∃ N : Nat, 2 ^ n = N := ⟨_, rfl⟩
      rw [hN] at ho
      obtain ⟨b, rfl⟩ : ∃ b : Nat, bi = b := ⟨bi.toNat, by omega⟩
      have hb : b < 2 ^ n := by rw [hN]; omega
      refine (mixed_ok A1 A2 n c1 n2 c2 b S T w hS hT hF hc hb).mono ?_
      rintro e w' ⟨⟨A, c, _, rfl, hu⟩, k⟩
      exact ⟨⟨A, n, c, 0, rfl, .inr (.inr ⟨rfl, b, rfl, hb, rfl, rfl, hu⟩)⟩, k⟩
/-- what Reach answers -/
def ReaSay (ch : Bool) (L : List Nat) (A : Option Addr) (len : Nat) (f : Int) (w : World) : Prop :=
  (ch = false ∧ len = 0 ∧ f = 2) ∨ (ch = true ∧ len = L.length ∧ f = 0 ∧ NumsIn w A L)
theorem ReaSay.below {ch : Bool} {L : List Nat} {A : Option Addr} {len : Nat} {f : Int} {w w' : World} (h : ReaSay ch L A len f w) (hb : Below w.heap.size w w') : ReaSay ch L A len f w' := by
  rcases h with h | ⟨h0, h1, h2, h3⟩
  · exact .inl h
  · exact .inr ⟨h0, h1, h2, h3.below hb (Nat.le_refl _)⟩
theorem rea_all (A1 A2 A3 : Option Addr) (n c1 n2 c2 m c3 : Nat) (S T : Nat → U) (Rw : Nat → R) (w : World) (hS : UnitsIn w A1 n S) (hT : UnitsIn w A2 n2 T) (hR : RowsIn w A3 m Rw) (hF : Fits S n) (hnc : n ≤ c1) (hn : n ≤ 12) (ch : Bool) (hc : chg n n2 S T = ch) :
    Calls Try.prog 11 #[.slice A3 m c3, .slice A1 n c1, .slice A2 n2 c2] w fun e w' => (∃ A len c f, e = .returned (.tuple #[.slice A len c, .int .i64 f]) ∧ ReaSay ch (rchL m Rw n S T) A len f w') ∧ Below w.heap.size w w' := by
  cases ch with
  | false =>
    refine (reach_bad A1 A2 A3 n c1 n2 c2 m c3 S T w hS hT hF (by omega) hc).mono ?_
    rintro e w' ⟨rfl, k⟩
    exact ⟨⟨none, 0, 0, 2, rfl, .inl ⟨rfl, rfl, rfl⟩⟩, k⟩
  | true =>
    refine (reach_ok A1 A2 A3 n c1 n2 c2 m c3 S T Rw w hS hT hR hF hnc hc).mono ?_
    rintro e w' ⟨⟨A, c, rfl, hu⟩, k⟩
    exact ⟨⟨A, _, c, 0, rfl, .inr ⟨rfl, rfl, rfl, hu⟩⟩, k⟩
/-- what Order answers -/
def OrdSay (ch : Bool) (r : Option (List Nat)) (A : Option Addr) (len : Nat) (f : Int) (w : World) : Prop :=
  (ch = false ∧ len = 0 ∧ f = 2) ∨ (ch = true ∧ r = none ∧ len = 0 ∧ f = 6) ∨ (ch = true ∧ ∃ p, r = some p ∧ len = p.length ∧ f = 0 ∧ NumsIn w A p)
theorem OrdSay.below {ch : Bool} {r : Option (List Nat)} {A : Option Addr} {len : Nat} {f : Int} {w w' : World} (h : OrdSay ch r A len f w) (hb : Below w.heap.size w w') : OrdSay ch r A len f w' := by
  rcases h with h | h | ⟨h0, p, h1, h2, h3, h4⟩
  · exact .inl h
  · exact .inr (.inl h)
  · exact .inr (.inr ⟨h0, p, h1, h2, h3, h4.below hb (Nat.le_refl _)⟩)
theorem ord_all (A1 A2 A3 : Option Addr) (n c1 n2 c2 m c3 : Nat) (S T : Nat → U) (Rw : Nat → R) (w : World) (hS : UnitsIn w A1 n S) (hT : UnitsIn w A2 n2 T) (hR : RowsIn w A3 m Rw) (hF : Fits S n) (hnc : n ≤ c1) (hn : n ≤ 12) (ch : Bool) (hc : chg n n2 S T = ch) :
    Calls Try.prog 12 #[.slice A3 m c3, .slice A1 n c1, .slice A2 n2 c2] w fun e w' => (∃ A len c f, e = .returned (.tuple #[.slice A len c, .int .i64 f]) ∧ OrdSay ch (OrdR m Rw n S T) A len f w') ∧ Below w.heap.size w w' := by
  cases ch with
  | false =>
    refine (order_bad A1 A2 A3 n c1 n2 c2 m c3 S T w hS hT hF (by omega) hc).mono ?_
    rintro e w' ⟨rfl, k⟩
    exact ⟨⟨none, 0, 0, 2, rfl, .inl ⟨rfl, rfl, rfl⟩⟩, k⟩
  | true =>
    obtain ⟨_, rfl, _, _⟩ := chg_parts hc
    refine (order_any A1 A2 A3 n c1 c2 m c3 S T Rw w hS hT hR hF hnc hc).mono ?_
    rintro e w' ⟨k, (⟨h1, rfl⟩ | ⟨p, A, c, h1, rfl, hp⟩)⟩
    · exact ⟨⟨none, 0, 0, 6, rfl, .inr (.inl ⟨rfl, h1, rfl, rfl⟩)⟩, k⟩
    · exact ⟨⟨A, _, c, 0, rfl, .inr (.inr ⟨rfl, p, h1, rfl, rfl, hp⟩)⟩, k⟩
/-- two slices of the same numbers -/
theorem ints_same (A B : Option Addr) (l c l2 c2 : Nat) (z : List Nat) (w : World) (hz : NumsIn w A z) (hy : NumsIn w B z) (h1 : l = z.length) (h2 : l2 = z.length) (hl : z.length ≤ 256) :
    Calls Try.prog 26 #[.slice A l c, .slice B l2 c2] w fun e w' => e = .returned (.bool true) ∧ Below w.heap.size w w' := by
  subst h1
  subst h2
  refine (ints_any A B c c2 z z w hz hy hl).mono ?_
  rintro e w' ⟨rfl, k⟩
  exact ⟨by simp, k⟩
theorem reach_len (m : Nat) (Rw : Nat → R) (n : Nat) (S T : Nat → U) : (rchL m Rw n S T).length ≤ 256 := by
  unfold rchL
  generalize 256 = N
  exact rl_len _ N
theorem road_len {m n : Nat} {Rw : Nat → R} {S T : Nat → U} {p : List Nat} (h : OrdR m Rw n S T = some p) : p.length ≤ 256 := by
  rw [← rO_zero] at h
  exact rO_len h
end Go.Proofs.Ytcjbjhkmnfegnaa
