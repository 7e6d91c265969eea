/-
  CompatTells, the plain law: what the document's Reachable and Order compute, against what Reach and Order compute. No program in sight.
-/
import Derived.Test.YtcjbjhkmnfegnaaT3
import Derived.Test.YtcjbjhkmnfegnaaP7
namespace Go.Proofs.Ytcjbjhkmnfegnaa
open Go.RowKit
section
variable {m n : Nat} {Rw : Nat → R} {S T : Nat → U}
/-! ### Reachable -/
def rch (m : Nat) (Rw : Nat → R) (n : Nat) (S T : Nat → U) (b : Nat) : Bool := (rchL m Rw n S T).contains b
theorem rch_in {b : Nat} : rch m Rw n S T b = true ↔ b ∈ rchL m Rw n S T := by
  unfold rch
  exact List.contains_iff_mem
theorem rch_bad (hn : n ≤ 8) {b : Nat} (h : cmp m Rw (mx S T b) n = false) : rch m Rw n S T b = false := by
  cases hc : rch m Rw n S T b with
  | false => rfl
  | true =>
    have hm := rch_in.1 hc
    by_cases h0 : b = 0
    · subst h0
      have := ((rch_mem hn).1 hm).1
      rw [cmp_congr (fun k _ => (mx_zero (S := S) (T := T) k).symm), h] at this
      cases this
    · obtain ⟨a, k, h1, h2, h3, h4, h5⟩ := rch_from hn hm h0
      have := rch_step hn h1 h2 h3 h4
      rw [← h5, h] at this
      rw [← this]
      exact hc.symm
theorem rch_start (hn : n ≤ 8) (h : cmp m Rw (mx S T 0) n = true) : rch m Rw n S T 0 = true := by
  unfold rch
  rw [rch_zero hn, ← h]
  exact cmp_congr fun k _ => (mx_zero k).symm
/-- is b reachable by way of one of the first k units -/
def via (m : Nat) (Rw : Nat → R) (n : Nat) (S T : Nat → U) (b : Nat) : Nat → Bool
  | 0 => false
  | k + 1 => via m Rw n S T b k || (b.testBit k && (df S T k && rch m Rw n S T (b - 2 ^ k)))
theorem via_iff {b : Nat} : ∀ {k : Nat}, via m Rw n S T b k = true ↔ ∃ i, i < k ∧ b.testBit i = true ∧ df S T i = true ∧ rch m Rw n S T (b - 2 ^ i) = true
  | 0 => by simp [via]
  | k + 1 => by
    rw [via, Bool.or_eq_true, via_iff, Bool.and_eq_true, Bool.and_eq_true]
    constructor
    · rintro (⟨i, h1, h2⟩ | h)
      · exact ⟨i, by omega, h2⟩
      · exact ⟨k, by omega, h⟩
    · rintro ⟨i, h1, h2⟩
      by_cases e : i = k
      · subst e; exact .inr h2
      · exact .inl ⟨i, by omega, h2⟩
theorem sub_tab : ∀ b : Fin 256, ∀ k : Fin 8, b.val.testBit k.val = true → (b.val - 2 ^ k.val).testBit k.val = false ∧ up (b.val - 2 ^ k.val) k.val = b.val ∧ b.val - 2 ^ k.val < b.val ∧ 2 ^ k.val ≤ b.val := by decide +kernel
theorem sub_bit {b k : Nat} (hb : b < 256) (hk : k < 8) (h : b.testBit k = true) : (b - 2 ^ k).testBit k = false ∧ up (b - 2 ^ k) k = b ∧ b - 2 ^ k < b ∧ 2 ^ k ≤ b := sub_tab ⟨b, hb⟩ ⟨k, hk⟩ h
theorem add_tab : ∀ b : Fin 256, ∀ k : Fin 8, b.val.testBit k.val = false → b.val + 2 ^ k.val = up b.val k.val ∧ up b.val k.val - 2 ^ k.val = b.val ∧ (up b.val k.val).testBit k.val = true := by decide +kernel
theorem add_bit {b k : Nat} (hb : b < 256) (hk : k < 8) (h : b.testBit k = false) : b + 2 ^ k = up b k ∧ up b k - 2 ^ k = b ∧ (up b k).testBit k = true := add_tab ⟨b, hb⟩ ⟨k, hk⟩ h
/-- where the mixed set is compatible and the number is not 0 -/
theorem rch_via (hn : n ≤ 8) {b : Nat} (hb : b < 256) (h0 : b ≠ 0) (hc : cmp m Rw (mx S T b) n = true) : rch m Rw n S T b = via m Rw n S T b n := by
  rw [Bool.eq_iff_iff, via_iff]
  constructor
  · intro h
    obtain ⟨a, k, h1, h2, h3, h4, h5⟩ := rch_from hn (rch_in.1 h) h0
    have ha : a < 256 := Nat.lt_of_le_of_lt (by
      have := ((rch_mem hn).1 h1).2.le hn (by decide)
      have h6 := up_le this.2 (Nat.lt_of_lt_of_le h2 hn)
      rw [← h5] at h6
      exact h6) hb
    have h6 := add_bit ha (Nat.lt_of_lt_of_le h2 hn) h4
    rw [← h5] at h6
    exact ⟨k, h2, h6.2.2, h3, by rw [h6.2.1]; exact rch_in.2 h1⟩
  · rintro ⟨k, h1, h2, h3, h4⟩
    have h5 := sub_bit hb (Nat.lt_of_lt_of_le h1 hn) h2
    have h6 := rch_step hn (rch_in.1 h4) h1 h3 h5.1
    rw [h5.2.1, hc] at h6
    exact h6
/-! ### the list of reachable numbers -/
theorem rl_congr {f g : Nat → Bool} : ∀ {k : Nat}, (∀ j, j < k → f j = g j) → rl f k = rl g k
  | 0, _ => rfl
  | k + 1, h => by rw [rl, rl, rl_congr (fun j hj => h j (by omega)), h k (by omega)]
theorem rl_stop {f : Nat → Bool} {a : Nat} : ∀ {k : Nat}, a ≤ k → (∀ j, a ≤ j → j < k → f j = false) → rl f k = rl f a
  | 0, h, _ => by obtain rfl : a = 0 := by omega
                  rfl
  | k + 1, h, hf => by
    rcases Nat.lt_or_ge a (k + 1) with h' | h'
    · rw [rl, rl_stop (k := k) (by omega) (fun j h1 h2 => hf j h1 (by omega)), hf k (by omega) (by omega)]
      simp
    · obtain rfl : a = k + 1 := by omega
      rfl
theorem rchL_list (hn : n ≤ 8) : rl (rch m Rw n S T) (2 ^ n) = rchL m Rw n S T := by
  have h1 : rchL m Rw n S T = rl (rch m Rw n S T) 256 := by
    unfold rchL
    refine rl_congr fun j hj => ?_
    unfold rch rchL
    rw [Bool.eq_iff_iff, List.contains_iff_mem, rl_mem]
    exact ⟨fun h => ⟨hj, h⟩, fun h => h.2⟩
  rw [h1]
  refine (rl_stop (pow8_le hn) (fun j h2 h3 => ?_)).symm
  cases hc : rch m Rw n S T j with
  | false => rfl
  | true =>
    exact absurd (sub_lt (rch_sub hn (rch_in.1 hc))) (Nat.not_lt.2 h2)
/-! ### Order -/
theorem ord_pre : ∀ (f : Nat) (p : List Nat) (b : Nat), ord m Rw n S T f p b = (ord m Rw n S T f [] b).map (p ++ ·)
  | 0, p, b => by
    rw [ord, ord]
    split <;> simp
  | f + 1, p, b => by
    rw [ord, ord]
    split
    · simp
    · cases nxt m Rw n S T b with
      | none => rfl
      | some k =>
        show ord m Rw n S T f (p ++ [k]) (up b k) = (ord m Rw n S T f ([] ++ [k]) (up b k)).map (p ++ ·)
        rw [ord_pre f (p ++ [k]), ord_pre f ([] ++ [k])]
        cases ord m Rw n S T f [] (up b k) <;> simp
theorem ord_more (hn : n ≤ 8) : ∀ (f : Nat) (p : List Nat) (b : Nat), b < 256 → 255 ≤ f + b → ord m Rw n S T (f + 1) p b = ord m Rw n S T f p b
  | 0, p, b, hb, hf => by
    obtain rfl : b = 255 := by omega
    rw [ord, ord]
    split
    · rfl
    · cases hx : nxt m Rw n S T 255 with
      | none => rfl
      | some k =>
        obtain ⟨h1, h2, _⟩ := nxt_parts hx
        have := stp_up hn hb h1 h2
        omega
  | f + 1, p, b, hb, hf => by
    rw [ord, ord]
    split
    · rfl
    · cases hx : nxt m Rw n S T b with
      | none => rfl
      | some k =>
        obtain ⟨h1, h2, _⟩ := nxt_parts hx
        have := stp_up hn hb h1 h2
        exact ord_more hn f _ _ this.2 (by omega)
theorem ord_rd (hn : n ≤ 8) : ∀ (f : Nat) (p q : List Nat) (b : Nat), b < 256 → ord m Rw n S T f p b = some q → Rd m Rw n S T b (gl S T n)
  | 0, p, q, b, hb, h => by
    rw [ord] at h
    split at h
    · rename_i e; rw [e]; exact .refl _
    · cases h
  | f + 1, p, q, b, hb, h => by
    rw [ord] at h
    split at h
    · rename_i e; rw [e]; exact .refl _
    · cases hx : nxt m Rw n S T b with
      | none => rw [hx] at h; cases h
      | some k =>
        rw [hx] at h
        obtain ⟨h1, h2, _⟩ := nxt_parts hx
        have hu := stp_up hn hb h1 h2
        exact .step h1 h2 (ord_rd hn f _ _ _ hu.2 h)
/-- what the document's Order answers from the number b on -/
def rO (m : Nat) (Rw : Nat → R) (n : Nat) (S T : Nat → U) (b : Nat) : Option (List Nat) := if cmp m Rw (mx S T b) n = true then ord m Rw n S T 256 [] b else none
theorem rO_zero : rO m Rw n S T 0 = OrdR m Rw n S T := by
  unfold rO OrdR ordF
  rw [cmp_congr (fun k _ => mx_zero (S := S) (T := T) k)]
/-- the first of the first k units by which the document's Order goes on -/
def fst (m : Nat) (Rw : Nat → R) (n : Nat) (S T : Nat → U) (b : Nat) : Nat → Option (List Nat)
  | 0 => none
  | k + 1 => match fst m Rw n S T b k with
    | some q => some q
    | none => if (!b.testBit k && df S T k) = true then (rO m Rw n S T (up b k)).map (k :: ·) else none
theorem rO_some (hn : n ≤ 8) {b k : Nat} (hb : b < 256) (hk : k < n) (h1 : stp m Rw n S T b k = true) (h2 : lead m Rw n S T (up b k) = true) : ∃ q, rO m Rw n S T (up b k) = some q := by
  have hu := stp_up hn hb hk h1
  obtain ⟨q, hq⟩ := ord_has hn 256 [] (up b k) hu.2 (Nat.le_add_right _ _) ((lead_iff hn hu.2).1 h2)
  exact ⟨q, by unfold rO; rw [if_pos (stp_parts h1).2.2]; exact hq⟩
theorem rO_none (hn : n ≤ 8) {b k : Nat} (hb : b < 256) (hk : k < n) (h0 : b.testBit k = false) (hd : df S T k = true) (h : ¬ (stp m Rw n S T b k = true ∧ lead m Rw n S T (up b k) = true)) : rO m Rw n S T (up b k) = none := by
  unfold rO
  by_cases hc : cmp m Rw (mx S T (up b k)) n = true
  · rw [if_pos hc]
    have hs : stp m Rw n S T b k = true := by simp [stp, h0, hd, hc]
    have hu := stp_up hn hb hk hs
    cases ho : ord m Rw n S T 256 [] (up b k) with
    | none => rfl
    | some q => exact absurd ⟨hs, (lead_iff hn hu.2).2 (ord_rd hn 256 [] q _ hu.2 ho)⟩ h
  · rw [if_neg hc]
theorem fst_eq (hn : n ≤ 8) {b : Nat} (hb : b < 256) : ∀ {j : Nat}, j ≤ n → fst m Rw n S T b j = ((elsS m Rw n S T b j).find? (fun x => lead m Rw n S T x.2)).bind (fun x => (rO m Rw n S T (up b x.1)).map (x.1 :: ·))
  | 0, _ => rfl
  | j + 1, hj => by
    have ih := fst_eq hn hb (j := j) (by omega)
    rw [fst, ih, elsS, List.find?_append]
    cases hf : (elsS m Rw n S T b j).find? (fun x => lead m Rw n S T x.2) with
    | some x =>
      obtain ⟨h1, h2, h3⟩ := elsS_mem (List.mem_of_find?_eq_some hf)
      have h4 : lead m Rw n S T x.2 = true := by simpa using List.find?_some hf
      rw [h3] at h4
      obtain ⟨q, hq⟩ := rO_some hn hb (by omega) h2 h4
      show (match (rO m Rw n S T (up b x.1)).map (x.1 :: ·) with | some q => some q | none => _) = (rO m Rw n S T (up b x.1)).map (x.1 :: ·)
      rw [hq]
      rfl
    | none =>
      show (if (!b.testBit j && df S T j) = true then (rO m Rw n S T (up b j)).map (j :: ·) else none) = _
      by_cases hc : (!b.testBit j && df S T j) = true
      · rw [if_pos hc]
        rw [Bool.and_eq_true] at hc
        have h0 : b.testBit j = false := by simpa using hc.1
        by_cases hs : stp m Rw n S T b j = true ∧ lead m Rw n S T (up b j) = true
        · rw [if_pos hs.1]
          simp [hs.2]
        · rw [rO_none hn hb (by omega) h0 hc.2 hs]
          by_cases h1 : stp m Rw n S T b j = true
          · rw [if_pos h1]
            have : lead m Rw n S T (up b j) = false := by
              cases hl : lead m Rw n S T (up b j) with
              | false => rfl
              | true => exact absurd ⟨h1, hl⟩ hs
            simp [this]
          · rw [if_neg h1]
            rfl
      · rw [if_neg hc]
        have h1 : ¬ stp m Rw n S T b j = true := fun h => hc (by rw [Bool.and_eq_true]; exact ⟨by simp [(stp_parts h).1], (stp_parts h).2.1⟩)
        rw [if_neg h1]
        rfl
/-- where the mixed set is compatible and units are left -/
theorem rO_fst (hn : n ≤ 8) {b : Nat} (hb : b < 256) (hc : cmp m Rw (mx S T b) n = true) (hne : b ≠ gl S T n) : rO m Rw n S T b = fst m Rw n S T b n := by
  rw [fst_eq hn hb (Nat.le_refl _)]
  unfold rO
  rw [if_pos hc]
  show ord m Rw n S T (255 + 1) [] b = _
  rw [ord, if_neg hne]
  unfold nxt
  cases hf : (elsS m Rw n S T b n).find? (fun x => lead m Rw n S T x.2) with
  | none => rfl
  | some x =>
    obtain ⟨h1, h2, h3⟩ := elsS_mem (List.mem_of_find?_eq_some hf)
    have hu := stp_up hn hb h1 h2
    show ord m Rw n S T 255 ([] ++ [x.1]) (up b x.1) = (if cmp m Rw (mx S T (up b x.1)) n = true then ord m Rw n S T 256 [] (up b x.1) else none).map (x.1 :: ·)
    rw [if_pos (stp_parts h2).2.2, ord_pre, ← ord_more hn 255 [] (up b x.1) hu.2 (Nat.le_add_right _ _)]
    rfl
theorem rO_goal (hc : cmp m Rw (mx S T (gl S T n)) n = true) : rO m Rw n S T (gl S T n) = some [] := by
  unfold rO
  rw [if_pos hc]
  show ord m Rw n S T (255 + 1) [] (gl S T n) = _
  rw [ord, if_pos rfl]
/-- how many of the first k units are changed and not in b -/
def lft (S T : Nat → U) (b : Nat) : Nat → Nat
  | 0 => 0
  | k + 1 => lft S T b k + (if (!b.testBit k && df S T k) = true then 1 else 0)
theorem lft_zero {b : Nat} : ∀ {k : Nat}, lft S T b k = 0 ↔ ∀ i, i < k → (!b.testBit i && df S T i) = false
  | 0 => by simp [lft]
  | k + 1 => by
    rw [lft]
    constructor
    · intro h i hi
      have h1 : lft S T b k = 0 := by omega
      by_cases e : i = k
      · subst e
        cases hc : (!b.testBit i && df S T i) with
        | false => rfl
        | true => rw [if_pos hc] at h; omega
      · exact lft_zero.1 h1 i (by omega)
    · intro h
      rw [lft_zero.2 (fun i hi => h i (by omega)), if_neg (by rw [h k (by omega)]; simp)]
theorem lft_goal {b : Nat} (hs : Sub S T n b) : lft S T b n = 0 ↔ b = gl S T n := by
  rw [lft_zero]
  constructor
  · intro h
    refine Nat.eq_of_testBit_eq fun j => ?_
    cases hb : b.testBit j with
    | true => exact (hs j hb).symm
    | false =>
      rw [gl_bit]
      by_cases hj : j < n
      · have := h j hj
        rw [hb] at this
        have hd : df S T j = false := by simpa using this
        rw [hd]; simp
      · simp [hj]
  · rintro rfl i hi
    rw [gl_bit]
    cases df S T i <;> simp [hi]
theorem fst_goal {b : Nat} (h : lft S T b n = 0) : ∀ {k : Nat}, k ≤ n → fst m Rw n S T b k = none
  | 0, _ => rfl
  | k + 1, hk => by
    rw [fst, fst_goal h (k := k) (by omega), lft_zero.1 h k (by omega)]
    rfl
end
end Go.Proofs.Ytcjbjhkmnfegnaa
