/-
  Plain law: a road turned round is a road of the change back. No program in sight.
-/
import Derived.Test.YtcjbjhkmnfegnaaP4
import Derived.Test.YtcjbjhkmnfegnaaO2
namespace Go.Proofs.Ytcjbjhkmnfegnaa
open Go.RowKit
variable {m n : Nat} {Rw : Nat → R} {S T : Nat → U}
theorem inn_congr {a : U} {X Y : Nat → U} : ∀ {n : Nat}, (∀ k, k < n → X k = Y k) → inn m Rw a X n = inn m Rw a Y n
  | 0, _ => rfl
  | n + 1, h => by rw [inn, inn, inn_congr (fun k hk => h k (by omega)), h n (by omega)]
theorem cmp_congr {X Y : Nat → U} : ∀ {n : Nat}, (∀ k, k < n → X k = Y k) → cmp m Rw X n = cmp m Rw Y n
  | 0, _ => rfl
  | n + 1, h => by rw [cmp, cmp, cmp_congr (fun k hk => h k (by omega)), h n (by omega), inn_congr (fun k hk => h k (by omega))]
theorem up_bit (b k j : Nat) : (up b k).testBit j = (b.testBit j || decide (k = j)) := by
  unfold up
  rw [Nat.testBit_or, Nat.testBit_two_pow]
theorem gl_bit : ∀ (n j : Nat), (gl S T n).testBit j = (decide (j < n) && df S T j)
  | 0, j => by simp [gl]
  | n + 1, j => by
    rw [gl]
    by_cases e : j = n
    · subst e
      cases hd : df S T j with
      | true => simp [up_bit]
      | false => simp [gl_bit j j]
    · have e2 : decide (j < n + 1) = decide (j < n) := by
        by_cases h : j < n
        · rw [decide_eq_true h, decide_eq_true (by omega)]
        · rw [decide_eq_false h, decide_eq_false (by omega)]
      have e3 : decide (n = j) = false := decide_eq_false (Ne.symm e)
      rw [e2]
      split
      · rw [up_bit, gl_bit n j, e3, Bool.or_false]
      · exact gl_bit n j
theorem df_comm (k : Nat) : df T S k = df S T k := by
  unfold df
  rw [show decide ((T k).1 = (S k).1) = decide ((S k).1 = (T k).1) from by rw [decide_eq_decide]; exact eq_comm, show ((T k).2 == (S k).2) = ((S k).2 == (T k).2) from by rw [Bool.eq_iff_iff, beq_iff_eq, beq_iff_eq]; exact eq_comm]
theorem df_no {k : Nat} (h : df S T k = false) : S k = T k := by
  unfold df at h
  simp at h
  exact Prod.ext h.1 h.2
theorem gl_comm (n : Nat) : gl T S n = gl S T n := Nat.eq_of_testBit_eq fun j => by rw [gl_bit, gl_bit, df_comm]
/-- what is not changed yet -/
def co (S T : Nat → U) (n b : Nat) : Nat := gl S T n ^^^ b
/-- only changed units -/
def Sub (S T : Nat → U) (n b : Nat) : Prop := ∀ j, b.testBit j = true → (gl S T n).testBit j = true
theorem co_bit {b : Nat} (h : Sub S T n b) (j : Nat) : (co S T n b).testBit j = ((gl S T n).testBit j && !b.testBit j) := by
  unfold co
  rw [Nat.testBit_xor]
  have := h j
  cases hb : b.testBit j <;> cases hg : (gl S T n).testBit j <;> simp_all
theorem co_zero : co S T n 0 = gl S T n := by simp [co]
theorem co_gl : co S T n (gl S T n) = 0 := by simp [co]
theorem Sub.zero : Sub S T n 0 := fun j h => by simp at h
theorem Sub.up {b k : Nat} (h : Sub S T n b) (hk : k < n) (hd : df S T k = true) : Sub S T n (up b k) := fun j hj => by
  rw [up_bit] at hj
  simp only [Bool.or_eq_true, decide_eq_true_eq] at hj
  rcases hj with hj | rfl
  · exact h j hj
  · rw [gl_bit]
    simp [hk, hd]
theorem mx_co {b k : Nat} (h : Sub S T n b) (hk : k < n) : mx T S (co S T n b) k = mx S T b k := by
  unfold mx
  rw [co_bit h, gl_bit]
  simp only [hk, decide_true, Bool.true_and]
  cases hd : df S T k with
  | true => cases hb : b.testBit k <;> simp
  | false =>
    have e := df_no hd
    cases hb : b.testBit k with
    | true =>
      have := h k hb
      rw [gl_bit] at this
      simp [hd] at this
    | false => simp [e]
theorem cmp_co {b : Nat} (h : Sub S T n b) : cmp m Rw (mx T S (co S T n b)) n = cmp m Rw (mx S T b) n := cmp_congr fun _ hk => mx_co h hk
theorem stp_parts {b k : Nat} (h : stp m Rw n S T b k = true) : b.testBit k = false ∧ df S T k = true ∧ cmp m Rw (mx S T (up b k)) n = true := by
  unfold stp at h
  simp only [Bool.and_eq_true, Bool.not_eq_true'] at h
  exact ⟨h.1.1, h.1.2, h.2⟩
theorem up_co {b k : Nat} (h : Sub S T n b) (hk : k < n) (hd : df S T k = true) (hb : b.testBit k = false) : up (co S T n (up b k)) k = co S T n b := Nat.eq_of_testBit_eq fun j => by
  rw [up_bit, co_bit (h.up hk hd), co_bit h, up_bit, gl_bit]
  by_cases e : k = j
  · subst e
    simp [hk, hd, hb]
  · simp [e]
/-- a step turned round -/
theorem stp_back {b k : Nat} (h : Sub S T n b) (hk : k < n) (hs : stp m Rw n S T b k = true) (hc : cmp m Rw (mx S T b) n = true) : stp m Rw n T S (co S T n (up b k)) k = true := by
  obtain ⟨h1, h2, h3⟩ := stp_parts hs
  unfold stp
  rw [up_co h hk h2 h1, cmp_co h, hc, df_comm, h2, co_bit (h.up hk h2), up_bit]
  simp
theorem Rd.back {b c : Nat} (hr : Rd m Rw n S T b c) : Sub S T n b → cmp m Rw (mx S T b) n = true → Rd m Rw n T S (co S T n c) (co S T n b) ∧ cmp m Rw (mx S T c) n = true := by
  induction hr with
  | refl => intro _ hc; exact ⟨.refl _, hc⟩
  | @step b k c hk hs _ ih =>
    intro hb hc
    obtain ⟨h1, h2, h3⟩ := stp_parts hs
    obtain ⟨i1, i2⟩ := ih (hb.up hk h2) h3
    refine ⟨i1.trans (.step hk (stp_back hb hk hs hc) ?_), i2⟩
    rw [up_co hb hk h2 h1]
    exact .refl _
theorem mx_zero (k : Nat) : mx S T 0 k = S k := by simp [mx]
theorem mx_gl {k : Nat} (hk : k < n) : mx S T (gl S T n) k = T k := by
  unfold mx
  rw [gl_bit]
  simp only [hk, decide_true, Bool.true_and]
  cases hd : df S T k with
  | true => simp
  | false => simp [df_no hd]
theorem OrdR_iff (hn : n ≤ 8) : (∃ p, OrdR m Rw n S T = some p) ↔ (cmp m Rw S n = true ∧ Rd m Rw n S T 0 (gl S T n)) := by
  unfold OrdR
  by_cases h : cmp m Rw S n = true
  · rw [if_pos h, ordF_iff hn]
    simp [h]
  · rw [if_neg h]
    simp [h]
theorem back_one (hn : n ≤ 8) (h : ∃ p, OrdR m Rw n S T = some p) : ∃ p, OrdR m Rw n T S = some p := by
  obtain ⟨h1, h2⟩ := (OrdR_iff hn).1 h
  have h0 : cmp m Rw (mx S T 0) n = true := by rw [cmp_congr (fun k _ => mx_zero k)]; exact h1
  obtain ⟨i1, i2⟩ := h2.back Sub.zero h0
  rw [co_gl, co_zero] at i1
  rw [cmp_congr (fun k hk => mx_gl hk)] at i2
  exact (OrdR_iff hn).2 ⟨i2, by rw [gl_comm]; exact i1⟩
/-- there is an order in one direction just where there is one in the other -/
theorem back_iff (hn : n ≤ 8) : (OrdR m Rw n S T).isSome = (OrdR m Rw n T S).isSome := by
  rw [Bool.eq_iff_iff, Option.isSome_iff_exists, Option.isSome_iff_exists]
  exact ⟨back_one hn, back_one hn⟩
/-- the change back is a change -/
theorem seen_congr {X Y : Nat → U} {x y : ByteArray} (hxy : x = y) : ∀ {n : Nat}, (∀ k, k < n → (X k).1 = (Y k).1) → seen X x n = seen Y y n
  | 0, _ => rfl
  | n + 1, h => by rw [seen, seen, seen_congr hxy (fun k hk => h k (by omega)), h n (by omega), hxy]
theorem dis_congr {X Y : Nat → U} : ∀ {n : Nat}, (∀ k, k < n → (X k).1 = (Y k).1) → dis X n = dis Y n
  | 0, _ => rfl
  | n + 1, h => by rw [dis, dis, dis_congr (fun k hk => h k (by omega)), seen_congr (h n (by omega)) (fun k hk => h k (by omega))]
theorem eqm_all : ∀ {n : Nat}, (∀ k, k < n → (S k).1 = (T k).1) → eqm S T n = true
  | 0, _ => rfl
  | n + 1, h => by rw [eqm, eqm_all (fun k hk => h k (by omega)), h n (by omega)]; simp
theorem chg_back {n2 : Nat} (h : chg n n2 S T = true) : chg n2 n T S = true := by
  obtain ⟨h1, rfl, h3, h4⟩ := chg_parts h
  unfold chg
  rw [← dis_congr (X := S) h4, h3, eqm_all (fun k hk => (h4 k hk).symm)]
  simp [h1]
theorem chg_comm {n2 : Nat} : chg n n2 S T = chg n2 n T S := by
  rw [Bool.eq_iff_iff]
  exact ⟨chg_back, chg_back⟩
/-- the last step of a road -/
theorem Gp.last {q : List Nat} {k c : Nat} (h : Gp m Rw n S T (q ++ [k]) c) : ∃ b, Gp m Rw n S T q b ∧ c = up b k ∧ k < n ∧ stp m Rw n S T b k = true := by
  generalize hp : q ++ [k] = p at h
  cases h with
  | start => simp at hp
  | @more p b k' h1 h2 h3 =>
    obtain ⟨e1, e2⟩ := List.append_inj' hp rfl
    simp at e2
    subst e1 e2
    obtain ⟨h4, h5, _⟩ := nxt_parts h3
    exact ⟨b, h1, rfl, h4, h5⟩
theorem Gp.sub {p : List Nat} {b : Nat} (h : Gp m Rw n S T p b) : Sub S T n b := by
  induction h with
  | start => exact Sub.zero
  | more h1 h2 h3 ih =>
    obtain ⟨h4, h5, _⟩ := nxt_parts h3
    exact ih.up h4 (stp_parts h5).2.1
theorem Gp.fine {p : List Nat} {b : Nat} (h0 : cmp m Rw S n = true) (h : Gp m Rw n S T p b) : cmp m Rw (mx S T b) n = true := by
  cases h with
  | start => rw [cmp_congr (fun k _ => mx_zero k)]; exact h0
  | more h1 h2 h3 => exact (stp_parts (nxt_parts h3).2.1).2.2
/-- one round of CompatBack: the road without its last change, the bits with it -/
theorem Gp.turn {q : List Nat} {k c : Nat} (h0 : cmp m Rw S n = true) (h : Gp m Rw n S T (q ++ [k]) c) : ∃ b, Gp m Rw n S T q b ∧ k < n ∧ up (co S T n c) k = co S T n b ∧ cmp m Rw (mx T S (co S T n b)) n = true := by
  obtain ⟨b, h1, rfl, h3, h4⟩ := h.last
  obtain ⟨h5, h6, h7⟩ := stp_parts h4
  exact ⟨b, h1, h3, up_co h1.sub h3 h6 h5, by rw [cmp_co h1.sub]; exact h1.fine h0⟩
theorem co_lt {b : Nat} (h : Sub S T n b) : co S T n b < 2 ^ n := by
  refine Nat.lt_pow_two_of_testBit _ (fun j hj => ?_)
  rw [co_bit h, gl_bit]
  simp [show ¬ j < n by omega]
end Go.Proofs.Ytcjbjhkmnfegnaa
