/-
  Plain law: Order has a road just where there is one. No program in sight.
-/
import Derived.Test.YtcjbjhkmnfegnaaP3
namespace Go.Proofs.Ytcjbjhkmnfegnaa
open Go.RowKit
/-- a road of single changes, each to a compatible set -/
inductive Rd (m : Nat) (Rw : Nat → R) (n : Nat) (S T : Nat → U) : Nat → Nat → Prop
  | refl (b : Nat) : Rd m Rw n S T b b
  | step {b k c : Nat} : k < n → stp m Rw n S T b k = true → Rd m Rw n S T (up b k) c → Rd m Rw n S T b c
variable {m n : Nat} {Rw : Nat → R} {S T : Nat → U}
theorem Rd.trans {a b c : Nat} (h : Rd m Rw n S T a b) (h2 : Rd m Rw n S T b c) : Rd m Rw n S T a c := by
  induction h with
  | refl => exact h2
  | step hk hs _ ih => exact .step hk hs (ih h2)
theorem stp_up (hn : n ≤ 8) {b k : Nat} (hb : b < 256) (hk : k < n) (hs : stp m Rw n S T b k = true) : b < up b k ∧ up b k < 256 := by
  have hu1 := up_lt hb (show k < 8 by omega)
  have hu2 := up_le hb (show k < 8 by omega)
  have hu3 : up b k ≠ b := fun e => by
    have := (up_same hb (show k < 8 by omega)).1 e
    simp [stp, this] at hs
  omega
theorem Rd.le (hn : n ≤ 8) {b c : Nat} (h : Rd m Rw n S T b c) : b < 256 → b ≤ c ∧ c < 256 := by
  induction h with
  | refl => intro h; exact ⟨Nat.le_refl _, h⟩
  | step hk hs _ ih =>
    intro hb
    have h1 := stp_up hn hb hk hs
    have h2 := ih h1.2
    omega
theorem Rd.head {b c : Nat} (h : Rd m Rw n S T b c) (hne : b ≠ c) : ∃ k, k < n ∧ stp m Rw n S T b k = true ∧ Rd m Rw n S T (up b k) c := by
  cases h with
  | refl => exact absurd rfl hne
  | step hk hs h => exact ⟨_, hk, hs, h⟩
theorem ld_iff (hn : n ≤ 8) {g : Nat} (hg : g < 256) : ∀ (c : Nat), c ≤ g + 1 → ∀ b, b < 256 → (ld m Rw n S T g c b = true ↔ (b = g ∨ (g < b + c ∧ Rd m Rw n S T b g)))
  | 0, _, b, hb => by
    rw [ld]
    simp only [decide_eq_true_eq]
    constructor
    · exact .inl
    · rintro (h | ⟨h1, h2⟩)
      · exact h
      · have := h2.le hn hb
        omega
  | c + 1, hc, b, hb => by
    have ih := ld_iff hn hg c (by omega)
    rw [ld]
    by_cases e : b = g - c
    · rw [if_pos e]
      subst e
      simp only [Bool.or_eq_true, List.any_eq_true]
      constructor
      · rintro (h | ⟨x, hx, hl⟩)
        · rcases (ih _ hb).1 h with h | ⟨h1, h2⟩
          · exact .inl h
          · exact .inr ⟨by omega, h2⟩
        · obtain ⟨h1, h2, h3⟩ := elsS_mem hx
          have hu := stp_up hn hb h1 h2
          rw [h3] at hl
          refine .inr ⟨by omega, .step h1 h2 ?_⟩
          rcases (ih _ hu.2).1 hl with h | ⟨_, h⟩
          · rw [h]; exact .refl _
          · exact h
      · rintro (h | ⟨h1, h2⟩)
        · exact .inl ((ih _ hb).2 (.inl h))
        · by_cases e2 : g - c = g
          · exact .inl ((ih _ hb).2 (.inl e2))
          · obtain ⟨k, hk, hs, hr⟩ := h2.head e2
            have hu := stp_up hn hb hk hs
            exact .inr ⟨_, elsS_has hk hs, (ih _ hu.2).2 (.inr ⟨by omega, hr⟩)⟩
    · rw [if_neg e, ih b hb]
      constructor
      · rintro (h | ⟨h1, h2⟩)
        · exact .inl h
        · exact .inr ⟨by omega, h2⟩
      · rintro (h | ⟨h1, h2⟩)
        · exact .inl h
        · exact .inr ⟨by omega, h2⟩
theorem lead_iff (hn : n ≤ 8) {b : Nat} (hb : b < 256) : lead m Rw n S T b = true ↔ Rd m Rw n S T b (gl S T n) := by
  unfold lead
  rw [ld_iff hn (gl_lt S T hn) _ (Nat.le_refl _) b hb]
  constructor
  · rintro (h | ⟨_, h⟩)
    · rw [h]; exact .refl _
    · exact h
  · exact fun h => .inr ⟨by omega, h⟩
theorem nxt_has (hn : n ≤ 8) {b : Nat} (hb : b < 256) (hne : b ≠ gl S T n) (h : Rd m Rw n S T b (gl S T n)) : ∃ k, nxt m Rw n S T b = some k := by
  obtain ⟨k, hk, hs, hr⟩ := h.head hne
  have hu := stp_up hn hb hk hs
  unfold nxt
  cases hf : (elsS m Rw n S T b n).find? (fun x => lead m Rw n S T x.2) with
  | some x => exact ⟨x.1, rfl⟩
  | none =>
    have := List.find?_eq_none.1 hf _ (elsS_has hk hs)
    exact absurd ((lead_iff hn hu.2).2 hr) (by simpa using this)
theorem ord_has (hn : n ≤ 8) : ∀ (f : Nat) (p : List Nat) (b : Nat), b < 256 → 256 ≤ f + b → Rd m Rw n S T b (gl S T n) → ∃ q, ord m Rw n S T f p b = some q
  | 0, p, b, hb, hf, h => by omega
  | f + 1, p, b, hb, hf, h => by
    rw [ord]
    by_cases e : b = gl S T n
    · rw [if_pos e]
      exact ⟨p, rfl⟩
    · rw [if_neg e]
      obtain ⟨k, hk⟩ := nxt_has hn hb e h
      rw [hk]
      obtain ⟨h1, h2, h3⟩ := nxt_parts hk
      have hu := stp_up hn hb h1 h2
      exact ord_has hn f _ _ hu.2 (by omega) ((lead_iff hn hu.2).1 h3)
theorem Gp.rd {p : List Nat} {b : Nat} (h : Gp m Rw n S T p b) : Rd m Rw n S T 0 b := by
  induction h with
  | start => exact .refl _
  | more h1 h2 h3 ih =>
    obtain ⟨h4, h5, _⟩ := nxt_parts h3
    exact ih.trans (.step h4 h5 (.refl _))
/-- Order finds a road just where there is one -/
theorem ordF_iff (hn : n ≤ 8) : (∃ p, ordF m Rw n S T = some p) ↔ Rd m Rw n S T 0 (gl S T n) :=
  ⟨fun ⟨_, h⟩ => (ordF_gp h).rd, fun h => ord_has hn 256 [] 0 (by omega) (by omega) h⟩
end Go.Proofs.Ytcjbjhkmnfegnaa
