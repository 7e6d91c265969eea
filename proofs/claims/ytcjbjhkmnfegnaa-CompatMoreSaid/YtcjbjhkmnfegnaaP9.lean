/-
  The law CompatMore, the plain law: what Order answers where rows are turned, repeated, or one is added for two modules that some row concerns. No condition.
-/
import Derived.Test.YtcjbjhkmnfegnaaRw
namespace Go.Proofs.Ytcjbjhkmnfegnaa
def flip (Rw : Nat → R) (k : Nat) : R := ((Rw k).2, (Rw k).1)
section
variable {m m' : Nat} {Rw Rw' : Nat → R} {n : Nat} {S T : Nat → U}
theorem con_flip (u v : U) : ∀ k, con (flip Rw) u v k = con Rw u v k
  | 0 => rfl
  | k + 1 => by
    rw [con, con, con_flip u v k]
    have h1 : hit (flip Rw k) u v = hit (Rw k) v u := by unfold hit flip; exact Bool.and_comm _ _
    have h2 : hit (flip Rw k) v u = hit (Rw k) u v := by unfold hit flip; exact Bool.and_comm _ _
    rw [h1, h2, Bool.or_assoc, Bool.or_assoc, Bool.or_comm (hit _ v u)]
theorem fnd_flip (u v : U) : ∀ k, fnd (flip Rw) u v k = fnd Rw u v k
  | 0 => rfl
  | k + 1 => by
    rw [fnd, fnd, fnd_flip u v k]
    have h0 : ∀ a b c d : Bool, (a && b && (c && d)) = (b && a && (d && c)) := by decide
    have h1 : exa (flip Rw k) u v = exa (Rw k) v u := by unfold exa hit flip; exact h0 _ _ _ _
    have h2 : exa (flip Rw k) v u = exa (Rw k) u v := by unfold exa hit flip; exact h0 _ _ _ _
    rw [h1, h2, Bool.or_assoc, Bool.or_assoc, Bool.or_comm (exa _ v u)]
theorem con_congr {X Y : Nat → R} {u v : U} : ∀ {k : Nat}, (∀ j, j < k → X j = Y j) → con X u v k = con Y u v k
  | 0, _ => rfl
  | k + 1, h => by rw [con, con, con_congr (fun j hj => h j (by omega)), h k (by omega)]
theorem fnd_congr {X Y : Nat → R} {u v : U} : ∀ {k : Nat}, (∀ j, j < k → X j = Y j) → fnd X u v k = fnd Y u v k
  | 0, _ => rfl
  | k + 1, h => by rw [fnd, fnd, fnd_congr (fun j hj => h j (by omega)), h k (by omega)]
theorem con_app (X Y : Nat → R) (u v : U) (m : Nat) : ∀ k, con (app X Y m) u v (m + k) = (con X u v m || con Y u v k)
  | 0 => by
    rw [Nat.add_zero, con_congr (Y := X) (fun j hj => by simp [app, hj]), con, Bool.or_false]
  | k + 1 => by
    rw [show m + (k + 1) = (m + k) + 1 by omega, con, con, con_app X Y u v m k]
    have := app_at X Y m k
    rw [this, Bool.or_assoc, Bool.or_assoc, Bool.or_assoc]
theorem fnd_app (X Y : Nat → R) (u v : U) (m : Nat) : ∀ k, fnd (app X Y m) u v (m + k) = (fnd X u v m || fnd Y u v k)
  | 0 => by
    rw [Nat.add_zero, fnd_congr (Y := X) (fun j hj => by simp [app, hj]), fnd, Bool.or_false]
  | k + 1 => by
    rw [show m + (k + 1) = (m + k) + 1 by omega, fnd, fnd, fnd_app X Y u v m k]
    have := app_at X Y m k
    rw [this, Bool.or_assoc, Bool.or_assoc, Bool.or_assoc]
theorem works_flip (u v : U) : works m (flip Rw) u v = works m Rw u v := by unfold works; rw [con_flip, fnd_flip]
theorem works_twice (u v : U) : works (m + m) (app Rw (flip Rw) m) u v = works m Rw u v := by unfold works; rw [con_app, fnd_app, con_flip, fnd_flip, Bool.or_self, Bool.or_self]
/-- some row concerns the modules of the further one -/
theorem hit_mods {r : R} {u v : U} (h : hit r u v = true) (u' v' : U) (h1 : u'.1 = u.1) (h2 : v'.1 = v.1) : hit r u' v' = true := by
  unfold hit at *
  rw [h1, h2]
  exact h
theorem con_mods {u v u' v' : U} (h1 : u'.1 = u.1) (h2 : v'.1 = v.1) : ∀ k, con Rw u' v' k = con Rw u v k
  | 0 => rfl
  | k + 1 => by rw [con, con, con_mods h1 h2 k]; unfold hit; rw [h1, h2]
theorem works_more {r : R} (hc : con Rw r.1 r.2 m = true) (u v : U) (h : works m Rw u v = true) : works (m + 1) (app Rw (fun _ => r) m) u v = true := by
  unfold works at *
  rw [con_app, fnd_app]
  show ((fnd Rw u v m || (false || exa r u v || exa r v u)) || !(con Rw u v m || (false || hit r u v || hit r v u))) = true
  rw [Bool.or_eq_true] at h
  rcases h with h | h
  · rw [h]; rfl
  · have hcf : con Rw u v m = false := by simpa using h
    have h1 : hit r u v = false := by
      cases hh : hit r u v with
      | false => rfl
      | true =>
        simp only [hit, Bool.and_eq_true, decide_eq_true_eq] at hh
        rw [con_mods hh.1.symm hh.2.symm, hc] at hcf
        cases hcf
    have h2 : hit r v u = false := by
      cases hh : hit r v u with
      | false => rfl
      | true =>
        simp only [hit, Bool.and_eq_true, decide_eq_true_eq] at hh
        have hx : ∀ k, con Rw u v k = con Rw v u k := fun k => by
          induction k with
          | zero => rfl
          | succ k ih => rw [con, con, ih, Bool.or_assoc, Bool.or_assoc, Bool.or_comm (hit _ u v)]
        rw [hx, con_mods hh.1.symm hh.2.symm, hc] at hcf
        cases hcf
    rw [hcf, h1, h2]
    simp
/-! Order depends on the rows by works alone -/
theorem inn_eq (h : ∀ u v, works m' Rw' u v = works m Rw u v) (a : U) (X : Nat → U) : ∀ k, inn m' Rw' a X k = inn m Rw a X k
  | 0 => rfl
  | k + 1 => by rw [inn, inn, inn_eq h a X k, h]
theorem cmp_eq (h : ∀ u v, works m' Rw' u v = works m Rw u v) (X : Nat → U) : ∀ k, cmp m' Rw' X k = cmp m Rw X k
  | 0 => rfl
  | k + 1 => by rw [cmp, cmp, cmp_eq h X k, inn_eq h]
theorem stp_eq (h : ∀ u v, works m' Rw' u v = works m Rw u v) (b k : Nat) : stp m' Rw' n S T b k = stp m Rw n S T b k := by unfold stp; rw [cmp_eq h]
theorem elsS_eq (h : ∀ u v, works m' Rw' u v = works m Rw u v) (b : Nat) : ∀ k, elsS m' Rw' n S T b k = elsS m Rw n S T b k
  | 0 => rfl
  | k + 1 => by rw [elsS, elsS, elsS_eq h b k, stp_eq h]
theorem ld_eq (h : ∀ u v, works m' Rw' u v = works m Rw u v) (g : Nat) : ∀ c, ld m' Rw' n S T g c = ld m Rw n S T g c
  | 0 => by funext x; rfl
  | c + 1 => by
    funext x
    rw [ld, ld, ld_eq h g c]
    simp only [elsS_eq h]
theorem nxt_eq (h : ∀ u v, works m' Rw' u v = works m Rw u v) (b : Nat) : nxt m' Rw' n S T b = nxt m Rw n S T b := by
  unfold nxt lead
  rw [elsS_eq h, ld_eq h]
theorem ord_eq (h : ∀ u v, works m' Rw' u v = works m Rw u v) : ∀ (f : Nat) (p : List Nat) (b : Nat), ord m' Rw' n S T f p b = ord m Rw n S T f p b
  | 0, _, _ => rfl
  | f + 1, p, b => by
    rw [ord, ord, nxt_eq h]
    split
    · rfl
    · split
      · rfl
      · exact ord_eq h f _ _
theorem OrdR_eq (h : ∀ u v, works m' Rw' u v = works m Rw u v) : OrdR m' Rw' n S T = OrdR m Rw n S T := by
  unfold OrdR ordF
  rw [cmp_eq h, ord_eq h]
theorem inn_le (h : ∀ u v, works m Rw u v = true → works m' Rw' u v = true) (a : U) (X : Nat → U) : ∀ k, inn m Rw a X k = true → inn m' Rw' a X k = true
  | 0, _ => rfl
  | k + 1, e => by
    rw [inn, Bool.and_eq_true] at e ⊢
    exact ⟨inn_le h a X k e.1, h _ _ e.2⟩
theorem cmp_le (h : ∀ u v, works m Rw u v = true → works m' Rw' u v = true) (X : Nat → U) : ∀ k, cmp m Rw X k = true → cmp m' Rw' X k = true
  | 0, _ => rfl
  | k + 1, e => by
    rw [cmp, Bool.and_eq_true] at e ⊢
    exact ⟨cmp_le h X k e.1, inn_le h _ X k e.2⟩
theorem stp_le (h : ∀ u v, works m Rw u v = true → works m' Rw' u v = true) {b k : Nat} (e : stp m Rw n S T b k = true) : stp m' Rw' n S T b k = true := by
  unfold stp at *
  rw [Bool.and_eq_true] at e ⊢
  exact ⟨e.1, cmp_le h _ _ e.2⟩
theorem Rd.le_rows (h : ∀ u v, works m Rw u v = true → works m' Rw' u v = true) {b c : Nat} (hr : Rd m Rw n S T b c) : Rd m' Rw' n S T b c := by
  induction hr with
  | refl => exact .refl _
  | step hk hs _ ih => exact .step hk (stp_le h hs) ih
theorem OrdR_le (hn : n ≤ 8) (h : ∀ u v, works m Rw u v = true → works m' Rw' u v = true) (e : (OrdR m Rw n S T).isSome = true) : (OrdR m' Rw' n S T).isSome = true := by
  obtain ⟨h1, h2⟩ := (OrdR_iff hn).1 (Option.isSome_iff_exists.1 e)
  exact Option.isSome_iff_exists.2 ((OrdR_iff hn).2 ⟨cmp_le h _ _ h1, h2.le_rows h⟩)
end
end Go.Proofs.Ytcjbjhkmnfegnaa
