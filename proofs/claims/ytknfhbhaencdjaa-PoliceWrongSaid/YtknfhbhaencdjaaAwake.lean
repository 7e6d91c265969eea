/-
  The contract of awake (layer 19): it returns true, and leaves what was there as it was. No condition.
-/
import Derived.Test.YtknfhbhaencdjaaCon2
import Derived.Test.YtknfhbhaencdjaaCon3
import Derived.Test.YtknfhbhaencdjaaCon4
namespace Go.Proofs.Ytknfhbhaencdjaa
open Go.RowKit

theorem pass_to {b : Bool} {L' : Int} (pb : Nat) (B S J L C t s : Int) (w : World) (h : okC B S J = true) (hp : Acc w pb B S J L C) (hL0 : 0 ≤ L) (hL : L ≤ S * (B + J)) (hC0 : 0 ≤ C) (hCt : C ≤ t) (ht : t ≤ 1073741824) (hs1 : 1 ≤ s) (hs2 : s ≤ 2048)
    (hg : Pol.good B S J L C t s = b) (hn : Pol.next B S J L C t s = L') :
    Calls Try.prog 16 #[.pointer (some ⟨pb, 0, none⟩), .int .i64 t, .int .i64 s] w fun e w' => e = .returned (.tuple #[.bool b, .int .i64 0]) ∧ Acc w' pb B S J L' t ∧ w.grownBy w' (some pb) := by
  subst hg
  subst hn
  exact pass_any pb B S J L C t s w h hp hL0 hL hC0 hCt ht hs1 hs2

theorem conforms_to {b : Bool} (B S J : Int) (A : Option Addr) (n c : Nat) (t s : Nat → Int) (w : World) (h : okC B S J = true) (hF : Flow w A n t s) (ht : ∀ k, k < n → -1099511627776 ≤ t k ∧ t k ≤ 1099511627776) (hb : Pol.Conf B S J t s n = b) :
    Calls Try.prog 17 #[.int .i64 B, .int .i64 S, .int .i64 J, .slice A n c] w fun e w' => e = .returned (.bool b) ∧ Below w.heap.size w w' := by
  subst hb
  exact conforms_any B S J A n c t s w h hF ht

theorem Flow.below {w w' : World} {A : Option Addr} {n : Nat} {t s : Nat → Int} (h : Flow w A n t s) (hb : Below w.heap.size w w') : Flow w' A n t s := by
  refine ⟨h.1, fun hn => ?_⟩
  obtain ⟨g, hA, hg, hc⟩ := h.2 hn
  exact ⟨g, hA, Nat.lt_of_lt_of_le hg hb.size, fun k hk => ⟨(hb.cell (p := ⟨g, k * 2, none⟩) hg).trans (hc k hk).1, (hb.cell (p := ⟨g, k * 2 + 1, none⟩) hg).trans (hc k hk).2⟩⟩

/-- the flow of the chapter's example -/
def fT : Nat → Int
  | 0 => 0
  | 1 => 80
  | _ => 100
def fS : Nat → Int := fun _ => 50
theorem fl_lit (w : World) (n : Nat) (hn : n ≤ 3) : Flow (w.alloc (.cells #[.int .i64 0, .int .i64 50, .int .i64 80, .int .i64 50, .int .i64 100, .int .i64 50] 37)) (some ⟨w.heap.size, 0, none⟩) n fT fS := by
  refine ⟨by omega, fun _ => ⟨w.heap.size, rfl, by simp, fun k hk => ?_⟩⟩
  have hb := Blk.made w 37 #[.int .i64 0, .int .i64 50, .int .i64 80, .int .i64 50, .int .i64 100, .int .i64 50]
  rw [hb.cell, hb.cell]
  match k with
  | 0 => exact ⟨rfl, rfl⟩
  | 1 => exact ⟨rfl, rfl⟩
  | 2 => exact ⟨rfl, rfl⟩
  | k + 3 => omega
theorem fl_bd (n : Nat) : ∀ k, k < n → -1099511627776 ≤ fT k ∧ fT k ≤ 1099511627776 := fun k _ => by
  match k with
  | 0 => decide
  | 1 => decide
  | k + 2 => exact ⟨by show (-1099511627776 : Int) ≤ 100; omega, by show (100 : Int) ≤ _; omega⟩

set_option maxHeartbeats 2000000 in
theorem awake_any (w : World) : Calls Try.prog 12 #[] w fun e w' => e = .returned (.bool true) ∧ Below w.heap.size w w' := by
  have hok : okC 100 50 20 = true := by decide
  go_enter Try.func12, Try.ntmps12
  go_wp2_with fail
  refine (new_ok 100 50 20 _ hok).mono ?_
  rintro e w1 ⟨pb, rfl, hpb, hB1, ha1⟩
  go_wp2_with fail
  refine (level_any pb _ _ _ _ _ _ ha1).mono ?_
  rintro e w' ⟨rfl, rfl⟩
  go_wp2_with fail
  refine (pass_to (b := true) (L' := 1000) pb _ _ _ _ _ _ _ _ hok ha1 (by omega) (by omega) (by omega) (by omega) (by omega) (by omega) (by omega) (by decide) (by decide)).mono ?_
  rintro e w2 ⟨rfl, ha2, hg2⟩
  go_wp2_with fail
  refine (level_any pb _ _ _ _ _ _ ha2).mono ?_
  rintro e w' ⟨rfl, rfl⟩
  go_wp2_with fail
  refine (pass_to (b := true) (L' := 0) pb _ _ _ _ _ _ _ _ hok ha2 (by omega) (by omega) (by omega) (by omega) (by omega) (by omega) (by omega) (by decide) (by decide)).mono ?_
  rintro e w3 ⟨rfl, ha3, hg3⟩
  go_wp2_with fail
  refine (level_any pb _ _ _ _ _ _ ha3).mono ?_
  rintro e w' ⟨rfl, rfl⟩
  go_wp2_with fail
  refine (pass_to (b := false) (L' := 1000) pb _ _ _ _ _ _ _ _ hok ha3 (by omega) (by omega) (by omega) (by omega) (by omega) (by omega) (by omega) (by decide) (by decide)).mono ?_
  rintro e w4 ⟨rfl, ha4, hg4⟩
  go_wp2_with fail
  refine (bound_ok 100 50 20 100 _ hok (by omega) (by omega)).mono ?_
  rintro e w5 ⟨rfl, hB5⟩
  have ha5 : Acc w5 pb 100 50 20 1000 100 := ha4.below hB5 ha4.lt
  have hbnd : bnd 100 50 20 100 = 110 := by decide
  go_wp2_with fail
  refine (level_any pb _ _ _ _ _ _ (ha5.alloc _)).mono ?_
  rintro e w' ⟨rfl, rfl⟩
  go_wp2_with fail
  refine (conforms_to (b := true) 100 50 20 _ 2 _ fT fS _ hok (fl_lit _ 2 (by omega)) (fl_bd 2) (by decide)).mono ?_
  rintro e w6 ⟨rfl, hB6⟩
  go_wp2_with fail
  refine (conforms_to (b := false) 100 50 20 _ 3 _ fT fS _ hok ((fl_lit _ 3 (by omega)).below hB6) (fl_bd 3) (by decide)).mono ?_
  rintro e w7 ⟨rfl, hB7⟩
  go_wp2_with fail
  go_ret
  refine ⟨rfl, ?_⟩
  have k2 : Below w.heap.size w w2 := hB1.grown hg2 hB1.size (fun j e => by cases e; exact hpb)
  have k3 : Below w.heap.size w w3 := k2.grown hg3 k2.size (fun j e => by cases e; exact hpb)
  have k4 : Below w.heap.size w w4 := k3.grown hg4 k3.size (fun j e => by cases e; exact hpb)
  have k5 : Below w.heap.size w w5 := k4.trans (hB5.mono k4.size)
  have k6 : Below w.heap.size w w6 := (k5.alloc k5.size _).trans (hB6.mono (by have := k5.size; simp; omega))
  exact k6.trans (hB7.mono k6.size)
end Go.Proofs.Ytknfhbhaencdjaa
