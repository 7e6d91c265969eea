/-
  Plain laws about a token bucket (an account of a contract): levels, which frames pass, what conforms, bounds, scaling, bursts. No condition; no program in sight.
-/
namespace Go.Proofs.Ytknfhbhaencdjaa.Pol

def clk (t : Nat → Int) : Nat → Int
  | 0 => 0
  | k + 1 => t k
def adv (B S J L C t : Int) : Int := min (S * (B + J)) (L + S * (t - C))
def good (B S J L C t s : Int) : Bool := decide (s ≤ S) && decide (s * B ≤ adv B S J L C t)
def next (B S J L C t s : Int) : Int := if good B S J L C t s = true then adv B S J L C t - s * B else adv B S J L C t
def lev (B S J : Int) (t s : Nat → Int) : Nat → Int
  | 0 => S * (B + J)
  | k + 1 => next B S J (lev B S J t s k) (clk t k) (t k) (s k)
def psd (B S J : Int) (t s : Nat → Int) (k : Nat) : Bool := good B S J (lev B S J t s k) (clk t k) (t k) (s k)
def idx (B S J : Int) (t s : Nat → Int) (n : Nat) : List Nat := (List.range n).filter (psd B S J t s)
def bad (t s : Nat → Int) (k : Nat) : Bool := decide (t k < clk t k) || decide (1073741824 < t k) || decide (s k < 1) || decide (2048 < s k)

/-- The flow that the walk speaks of: times not going back, sizes that are sizes. -/
def Fine (t s : Nat → Int) (n : Nat) : Prop := ∀ k, k < n → clk t k ≤ t k ∧ t k ≤ 1073741824 ∧ 1 ≤ s k ∧ s k ≤ 2048

theorem mul_mono {S a b : Int} (hS : 0 ≤ S) (h : a ≤ b) : S * a ≤ S * b := Int.mul_le_mul_of_nonneg_left h hS

theorem adv_le (B S J L C t : Int) : adv B S J L C t ≤ S * (B + J) := by unfold adv; omega
theorem adv_le2 (B S J L C t : Int) : adv B S J L C t ≤ L + S * (t - C) := by unfold adv; omega
theorem adv_ge {B S J L C t x : Int} (h1 : x ≤ S * (B + J)) (h2 : x ≤ L + S * (t - C)) : x ≤ adv B S J L C t := by unfold adv; omega

theorem next_le {B S J L C t s : Int} (hs : 0 ≤ s) (hB : 0 ≤ B) : next B S J L C t s ≤ adv B S J L C t := by
  unfold next
  have := Int.mul_nonneg hs hB
  split <;> omega

theorem next_nonneg {B S J L C t s : Int} (hS : 0 ≤ S) (hB : 0 ≤ B) (hJ : 0 ≤ J) (hL : 0 ≤ L) (ht : C ≤ t) : 0 ≤ next B S J L C t s := by
  have h1 : 0 ≤ S * (B + J) := Int.mul_nonneg hS (by omega)
  have h2 : 0 ≤ S * (t - C) := Int.mul_nonneg hS (by omega)
  have h3 : 0 ≤ adv B S J L C t := adv_ge h1 (by omega)
  unfold next
  split
  · rename_i h
    simp [good] at h
    omega
  · exact h3

theorem lev_bd {B S J : Int} {t s : Nat → Int} {n : Nat} (hS : 0 ≤ S) (hB : 0 ≤ B) (hJ : 0 ≤ J) (hf : Fine t s n) : ∀ k, k ≤ n → 0 ≤ lev B S J t s k ∧ lev B S J t s k ≤ S * (B + J)
  | 0, _ => ⟨Int.mul_nonneg hS (by omega), Int.le_refl _⟩
  | k + 1, hk => by
    obtain ⟨h0, _⟩ := lev_bd hS hB hJ hf k (by omega)
    obtain ⟨g1, _, g3, _⟩ := hf k (by omega)
    exact ⟨next_nonneg hS hB hJ h0 g1, Int.le_trans (next_le (by omega) hB) (adv_le ..)⟩

/-! ### frames that are sent at times r -/
theorem pass_first {B S J t r s : Int} (hB : 0 ≤ B) (hS : 0 ≤ S) (hJ : 0 ≤ J) (ht : 0 ≤ t) (hr2 : t ≤ r + J) (hs : s ≤ S) (_h1 : 0 ≤ s) :
    good B S J (S * (B + J)) 0 t s = true ∧ S * (t - r) ≤ next B S J (S * (B + J)) 0 t s := by
  have a1 : adv B S J (S * (B + J)) 0 t = S * (B + J) := by
    unfold adv
    have := Int.mul_nonneg hS ht
    rw [Int.sub_zero]
    omega
  have h2 : s * B ≤ S * B := Int.mul_le_mul_of_nonneg_right hs hB
  have h3 : S * (B + J) = S * B + S * J := Int.mul_add ..
  have h4 : S * (t - r) ≤ S * J := mul_mono hS (by omega)
  have h5 := Int.mul_nonneg hS hJ
  have g : good B S J (S * (B + J)) 0 t s = true := by
    simp [good, a1]
    omega
  refine ⟨g, ?_⟩
  unfold next
  rw [if_pos g, a1]
  omega

theorem pass_next {B S J L C t r r' s : Int} (hB : 0 ≤ B) (hS : 0 ≤ S) (hJ : 0 ≤ J) (hL : S * (C - r) ≤ L) (hr : r + B ≤ r') (h1 : r' ≤ t) (h2 : t ≤ r' + J) (hs : s ≤ S) (_h0 : 0 ≤ s) :
    good B S J L C t s = true ∧ S * (t - r') ≤ next B S J L C t s := by
  have p1 : s * B ≤ S * B := Int.mul_le_mul_of_nonneg_right hs hB
  have p2 : S * (B + J) = S * B + S * J := Int.mul_add ..
  have p3 : S * (t - r') ≤ S * J := mul_mono hS (by omega)
  have p4 := Int.mul_nonneg hS hJ
  have p5 : S * (t - C) + S * (C - r) = S * (t - r) := by rw [← Int.mul_add]; congr 1; omega
  have p6 : S * (t - r') + S * B ≤ S * (t - r) := by rw [← Int.mul_add]; exact mul_mono hS (by omega)
  have p7 : 0 ≤ S * (t - r') := Int.mul_nonneg hS (by omega)
  have p8 : S * (t - r') + S * B ≤ adv B S J L C t := adv_ge (by omega) (by omega)
  have g : good B S J L C t s = true := by
    simp [good]
    omega
  refine ⟨g, ?_⟩
  unfold next
  rw [if_pos g]
  omega

/-! ### conforming -/
def nxt (B J : Int) (t : Nat → Int) : Nat → Int
  | 0 => -1048576
  | k + 1 => max (t k - J) (nxt B J t k) + B
def rr (B J : Int) (t : Nat → Int) (k : Nat) : Int := max (t k - J) (nxt B J t k)
def fits (B S J : Int) (t s : Nat → Int) (k : Nat) : Bool :=
  decide (rr B J t k ≤ t k) && decide (0 ≤ t k) && decide (t k ≤ 1073741824) && decide (1 ≤ s k) && decide (s k ≤ S)
def conf (B S J : Int) (t s : Nat → Int) (k : Nat) : Bool := fits B S J t s k && decide (0 < k → t (k - 1) ≤ t k)
/-- what Conforms returns for a contract that is one -/
def Conf (B S J : Int) (t s : Nat → Int) (n : Nat) : Bool := (List.range n).all (conf B S J t s)

theorem Conf_iff {B S J : Int} {t s : Nat → Int} {n : Nat} : Conf B S J t s n = true ↔ ∀ k, k < n → conf B S J t s k = true := by
  simp [Conf]

theorem conf_facts {B S J : Int} {t s : Nat → Int} {k : Nat} (h : conf B S J t s k = true) :
    rr B J t k ≤ t k ∧ 0 ≤ t k ∧ t k ≤ 1073741824 ∧ 1 ≤ s k ∧ s k ≤ S ∧ (0 < k → t (k - 1) ≤ t k) := by
  simp only [conf, fits, Bool.and_eq_true, decide_eq_true_eq] at h
  obtain ⟨⟨⟨⟨⟨h1, h2⟩, h3⟩, h4⟩, h5⟩, h6⟩ := h
  exact ⟨h1, h2, h3, h4, h5, h6⟩

/-- All frames of a flow that conforms pass. -/
theorem conf_pass {B S J : Int} {t s : Nat → Int} (hB : 0 ≤ B) (hS : 0 ≤ S) (hJ : 0 ≤ J) :
    ∀ k, (∀ i, i ≤ k → conf B S J t s i = true) → psd B S J t s k = true ∧ S * (t k - rr B J t k) ≤ lev B S J t s (k + 1)
  | 0, h => by
    obtain ⟨c1, c2, c3, c4, c5, _⟩ := conf_facts (h 0 (by omega))
    exact pass_first hB hS hJ c2 (by unfold rr; omega) c5 (by omega)
  | k + 1, h => by
    obtain ⟨_, hL⟩ := conf_pass hB hS hJ k (fun i hi => h i (by omega))
    obtain ⟨c1, c2, c3, c4, c5, _⟩ := conf_facts (h (k + 1) (by omega))
    refine pass_next hB hS hJ hL ?_ c1 (by unfold rr; omega) c5 (by omega)
    show rr B J t k + B ≤ max (t (k + 1) - J) (max (t k - J) (nxt B J t k) + B)
    unfold rr
    omega

theorem filter_all {p : Nat → Bool} {n : Nat} (h : ∀ k, k < n → p k = true) : (List.range n).filter p = List.range n :=
  List.filter_eq_self.2 fun a ha => h a (List.mem_range.1 ha)

theorem Conf_idx {B S J : Int} {t s : Nat → Int} {n : Nat} (hB : 0 ≤ B) (hS : 0 ≤ S) (hJ : 0 ≤ J) (h : Conf B S J t s n = true) : idx B S J t s n = List.range n :=
  filter_all fun k hk => (conf_pass hB hS hJ k fun i hi => Conf_iff.1 h i (by omega)).1

/-- A flow sent at times r conforms. -/
theorem conf_of_sent {B S J : Int} {t s r : Nat → Int} {n : Nat} (_hB : 0 ≤ B) (h0 : ∀ k, k < n → 0 ≤ r k) (hr : ∀ k, k + 1 < n → r k + B ≤ r (k + 1))
    (ht : ∀ k, k < n → r k ≤ t k ∧ t k ≤ r k + J ∧ t k ≤ 1073741824 ∧ 1 ≤ s k ∧ s k ≤ S) (hm : ∀ k, k + 1 < n → t k ≤ t (k + 1)) : Conf B S J t s n = true := by
  have key : ∀ k, k < n → rr B J t k ≤ r k := by
    intro k
    induction k with
    | zero =>
      intro hk
      have := h0 0 hk
      have := ht 0 hk
      show max (t 0 - J) (-1048576) ≤ r 0
      omega
    | succ k ih =>
      intro hk
      have := ih (by omega)
      have := hr k hk
      have := ht (k + 1) hk
      show max (t (k + 1) - J) (rr B J t k + B) ≤ r (k + 1)
      omega
  refine Conf_iff.2 fun k hk => ?_
  have h1 := key k hk
  have h2 := ht k hk
  have h3 := h0 k hk
  have h4 : 0 < k → t (k - 1) ≤ t k := fun h => by
    have := hm (k - 1) (by omega)
    rwa [Nat.sub_add_cancel h] at this
  simp only [conf, fits, Bool.and_eq_true, decide_eq_true_eq]
  exact ⟨⟨⟨⟨⟨by omega, by omega⟩, by omega⟩, by omega⟩, by omega⟩, h4⟩

/-! ### bounds -/
theorem clk_mono {t s : Nat → Int} {n : Nat} (hf : Fine t s n) : ∀ {a b : Nat}, a ≤ b → b ≤ n → clk t a ≤ clk t b := by
  intro a b hab hb
  induction b with
  | zero => obtain rfl : a = 0 := by omega
            exact Int.le_refl _
  | succ b ih =>
    rcases Nat.eq_or_lt_of_le hab with rfl | h
    · exact Int.le_refl _
    · exact Int.le_trans (ih (by omega) (by omega)) (hf b (by omega)).1

/-- how many bytes have passed among the first n frames -/
def Ps (B S J : Int) (t s : Nat → Int) : Nat → Int
  | 0 => 0
  | k + 1 => Ps B S J t s k + if psd B S J t s k = true then s k else 0

theorem step_pay (B S J : Int) (t s : Nat → Int) (k : Nat) :
    B * (if psd B S J t s k = true then s k else 0) + lev B S J t s (k + 1) = adv B S J (lev B S J t s k) (clk t k) (t k) := by
  show _ + next _ _ _ _ _ _ _ = _
  unfold next psd
  split
  · rw [Int.mul_comm B]; omega
  · omega

theorem pay_from {B S J : Int} {t s : Nat → Int} {a : Nat} : ∀ n, a + 1 ≤ n → B * (Ps B S J t s n - Ps B S J t s a) + lev B S J t s n ≤ S * (B + J) + S * (clk t n - t a) := by
  intro n
  induction n with
  | zero => intro h; omega
  | succ n ih =>
    intro h
    have hp := step_pay B S J t s n
    rcases Nat.eq_or_lt_of_le h with h' | h'
    · obtain rfl : n = a := by omega
      have e : Ps B S J t s (n + 1) - Ps B S J t s n = (if psd B S J t s n = true then s n else 0) := by
        show Ps B S J t s n + _ - _ = _
        omega
      rw [e, hp]
      have := adv_le B S J (lev B S J t s n) (clk t n) (t n)
      show _ ≤ S * (B + J) + S * (t n - t n)
      rw [Int.sub_self, Int.mul_zero]
      omega
    · have hi := ih (by omega)
      have e : Ps B S J t s (n + 1) - Ps B S J t s a = (Ps B S J t s n - Ps B S J t s a) + (if psd B S J t s n = true then s n else 0) := by
        show Ps B S J t s n + _ - _ = _
        omega
      rw [e, Int.mul_add]
      have h1 := adv_le2 B S J (lev B S J t s n) (clk t n) (t n)
      have h2 : S * (clk t (n + 1) - t a) = S * (t n - clk t n) + S * (clk t n - t a) := by
        rw [← Int.mul_add]; show S * (t n - t a) = _; congr 1; omega
      omega

/-- sums over the frames that passed, in the order of their indices -/
def Qs (s : Nat → Int) (l : List Nat) : Nat → Int
  | 0 => 0
  | j + 1 => Qs s l j + s (l.getD j 0)

theorem idx_succ (B S J : Int) (t s : Nat → Int) (n : Nat) : idx B S J t s (n + 1) = idx B S J t s n ++ if psd B S J t s n = true then [n] else [] := by
  unfold idx
  rw [List.range_succ, List.filter_append]
  congr 1
  by_cases h : psd B S J t s n = true <;> simp [h]

theorem Qs_append (s : Nat → Int) (l m : List Nat) : ∀ j, j ≤ l.length → Qs s (l ++ m) j = Qs s l j
  | 0, _ => rfl
  | j + 1, h => by
    show Qs s (l ++ m) j + _ = Qs s l j + _
    rw [Qs_append s l m j (by omega)]
    congr 2
    simp [List.getD, List.getElem?_append_left (show j < l.length by omega)]

theorem Qs_idx (B S J : Int) (t s : Nat → Int) : ∀ n, Qs s (idx B S J t s n) (idx B S J t s n).length = Ps B S J t s n ∧
    ∀ j, j < (idx B S J t s n).length → Qs s (idx B S J t s n) j = Ps B S J t s ((idx B S J t s n).getD j 0) ∧ Qs s (idx B S J t s n) (j + 1) = Ps B S J t s ((idx B S J t s n).getD j 0 + 1) ∧
      (idx B S J t s n).getD j 0 < n ∧ psd B S J t s ((idx B S J t s n).getD j 0) = true
  | 0 => ⟨rfl, fun j h => by simp [idx] at h⟩
  | n + 1 => by
    obtain ⟨h1, h2⟩ := Qs_idx B S J t s n
    have hs := idx_succ B S J t s n
    by_cases hp : psd B S J t s n = true
    · rw [if_pos hp] at hs
      rw [hs]
      have hg : (idx B S J t s n ++ [n]).getD (idx B S J t s n).length 0 = n := by simp [List.getD]
      have hPn : Ps B S J t s (n + 1) = Ps B S J t s n + s n := by show _ + (if _ then _ else _) = _; rw [if_pos hp]
      have hq : Qs s (idx B S J t s n ++ [n]) ((idx B S J t s n).length + 1) = Ps B S J t s (n + 1) := by
        show Qs s (idx B S J t s n ++ [n]) (idx B S J t s n).length + s _ = _
        rw [Qs_append _ _ _ _ (Nat.le_refl _), h1, hg, hPn]
      refine ⟨by rw [List.length_append]; exact hq, fun j hj => ?_⟩
      rw [List.length_append, List.length_singleton] at hj
      rcases Nat.lt_or_ge j (idx B S J t s n).length with hl | hl
      · have hgj : (idx B S J t s n ++ [n]).getD j 0 = (idx B S J t s n).getD j 0 := by simp [List.getD, List.getElem?_append_left hl]
        rw [hgj, Qs_append _ _ _ _ (by omega), Qs_append _ _ _ _ (by omega)]
        obtain ⟨a, b, c, d⟩ := h2 j hl
        exact ⟨a, b, by omega, d⟩
      · obtain rfl : j = (idx B S J t s n).length := by omega
        rw [hg, Qs_append _ _ _ _ (Nat.le_refl _)]
        exact ⟨h1, hq, by omega, hp⟩
    · rw [if_neg hp, List.append_nil] at hs
      rw [hs]
      refine ⟨?_, fun j hj => ?_⟩
      · rw [h1]; show _ = _ + (if _ then _ else _); rw [if_neg hp]; omega
      · obtain ⟨a, b, c, d⟩ := h2 j hj
        exact ⟨a, b, by omega, d⟩

/-- **in any interval, at most Bound bytes pass.** -/
theorem bytes_le {B S J : Int} {t s : Nat → Int} {n : Nat} (hB : 1 ≤ B) (hS : 0 ≤ S) (hJ : 0 ≤ J) (hf : Fine t s n) {i k : Nat} (hik : i ≤ k) (hk : k < (idx B S J t s n).length) :
    Qs s (idx B S J t s n) (k + 1) - Qs s (idx B S J t s n) i ≤ (S * (B + J) + S * (t ((idx B S J t s n).getD k 0) - t ((idx B S J t s n).getD i 0))) / B ∧
      s ((idx B S J t s n).getD k 0) ≤ S := by
  obtain ⟨-, hall⟩ := Qs_idx B S J t s n
  obtain ⟨_, k2, k3, k4⟩ := hall k hk
  obtain ⟨i1, _, i3, _⟩ := hall i (by omega)
  have hsorted : (idx B S J t s n).Pairwise (· < ·) := List.Pairwise.filter _ List.pairwise_lt_range
  have hle : (idx B S J t s n).getD i 0 ≤ (idx B S J t s n).getD k 0 := by
    rcases Nat.eq_or_lt_of_le hik with rfl | h
    · exact Nat.le_refl _
    · have := List.pairwise_iff_getElem.1 hsorted i k (by omega) hk h
      simp only [List.getD, List.getElem?_eq_getElem hk, List.getElem?_eq_getElem (show i < (idx B S J t s n).length by omega), Option.getD_some]
      omega
  have hp := pay_from (B := B) (S := S) (J := J) (t := t) (s := s) (a := (idx B S J t s n).getD i 0) ((idx B S J t s n).getD k 0 + 1) (by omega)
  have hl := (lev_bd (B := B) (S := S) (J := J) hS (by omega) hJ hf ((idx B S J t s n).getD k 0 + 1) (by omega)).1
  refine ⟨?_, ?_⟩
  · rw [k2, i1]
    rw [Int.le_ediv_iff_mul_le (by omega), Int.mul_comm]
    have : clk t ((idx B S J t s n).getD k 0 + 1) = t ((idx B S J t s n).getD k 0) := rfl
    rw [this] at hp
    omega
  · simp [psd, good] at k4
    exact k4.1

/-! ### the frames that passed pass again -/
def sub (l : List Nat) (t : Nat → Int) (j : Nat) : Int := t (l.getD j 0)

theorem sub_append {l m : List Nat} {t : Nat → Int} {j : Nat} (h : j < l.length) : sub (l ++ m) t j = sub l t j := by
  simp [sub, List.getD, List.getElem?_append_left h]
theorem clk_sub_append {l m : List Nat} {t : Nat → Int} {j : Nat} (h : j ≤ l.length) : clk (sub (l ++ m) t) j = clk (sub l t) j := by
  cases j with
  | zero => rfl
  | succ j => exact sub_append (by omega)
theorem lev_sub_append {B S J : Int} {l m : List Nat} {t s : Nat → Int} : ∀ j, j ≤ l.length → lev B S J (sub (l ++ m) t) (sub (l ++ m) s) j = lev B S J (sub l t) (sub l s) j
  | 0, _ => rfl
  | j + 1, h => by
    show next _ _ _ _ _ _ _ = next _ _ _ _ _ _ _
    rw [lev_sub_append j (by omega), clk_sub_append (by omega), sub_append (by omega), sub_append (by omega)]
theorem psd_sub_append {B S J : Int} {l m : List Nat} {t s : Nat → Int} {j : Nat} (h : j < l.length) : psd B S J (sub (l ++ m) t) (sub (l ++ m) s) j = psd B S J (sub l t) (sub l s) j := by
  unfold psd
  rw [lev_sub_append j (by omega), clk_sub_append (by omega), sub_append (by omega), sub_append (by omega)]

theorem adv_adv {B S J L C c t : Int} (hS : 0 ≤ S) (h : c ≤ t) : adv B S J (adv B S J L C c) c t = adv B S J L C t := by
  have h1 : S * (t - C) = S * (c - C) + S * (t - c) := by rw [← Int.mul_add]; congr 1; omega
  have h2 : 0 ≤ S * (t - c) := Int.mul_nonneg hS (by omega)
  unfold adv
  omega

theorem again {B S J : Int} {t s : Nat → Int} (hS : 0 ≤ S) (hB : 0 ≤ B) : ∀ n, Fine t s n →
    lev B S J t s n = adv B S J (lev B S J (sub (idx B S J t s n) t) (sub (idx B S J t s n) s) (idx B S J t s n).length) (clk (sub (idx B S J t s n) t) (idx B S J t s n).length) (clk t n) ∧
      ∀ j, j < (idx B S J t s n).length → psd B S J (sub (idx B S J t s n) t) (sub (idx B S J t s n) s) j = true
  | 0, _ => by
    refine ⟨?_, fun j h => by simp [idx] at h⟩
    show S * (B + J) = adv B S J (S * (B + J)) 0 0
    simp [adv]
  | n + 1, hf => by
    obtain ⟨h1, h2⟩ := again hS hB n (fun k hk => hf k (by omega))
    have hc := (hf n (by omega)).1
    have hs := idx_succ B S J t s n
    have hadv : adv B S J (lev B S J t s n) (clk t n) (t n) = adv B S J (lev B S J (sub (idx B S J t s n) t) (sub (idx B S J t s n) s) (idx B S J t s n).length) (clk (sub (idx B S J t s n) t) (idx B S J t s n).length) (t n) := by
      rw [h1]; exact adv_adv hS hc
    by_cases hp : psd B S J t s n = true
    · rw [if_pos hp] at hs
      rw [hs]
      have hg : ∀ u : Nat → Int, sub (idx B S J t s n ++ [n]) u (idx B S J t s n).length = u n := fun u => by simp [sub, List.getD]
      have hlast : psd B S J (sub (idx B S J t s n ++ [n]) t) (sub (idx B S J t s n ++ [n]) s) (idx B S J t s n).length = true := by
        unfold psd at hp ⊢
        rw [lev_sub_append _ (Nat.le_refl _), clk_sub_append (Nat.le_refl _), hg, hg]
        unfold good at hp ⊢
        rw [← hadv]; exact hp
      refine ⟨?_, fun j hj => ?_⟩
      · rw [List.length_append, List.length_singleton]
        have e1 : clk (sub (idx B S J t s n ++ [n]) t) ((idx B S J t s n).length + 1) = t n := hg t
        rw [e1]
        show _ = adv B S J _ (t n) (t n)
        have hle : lev B S J (sub (idx B S J t s n ++ [n]) t) (sub (idx B S J t s n ++ [n]) s) ((idx B S J t s n).length + 1) = lev B S J t s (n + 1) := by
          show next _ _ _ _ _ _ _ = next _ _ _ _ _ _ _
          rw [lev_sub_append _ (Nat.le_refl _), clk_sub_append (Nat.le_refl _), hg, hg]
          unfold next good
          rw [← hadv]
        rw [hle]
        have hb : lev B S J t s (n + 1) ≤ S * (B + J) := by
          have := step_pay B S J t s n
          have h3 := adv_le B S J (lev B S J t s n) (clk t n) (t n)
          rw [if_pos hp] at this
          have hpos : 0 ≤ B * s n := Int.mul_nonneg hB (by have := (hf n (by omega)).2.2.1; omega)
          omega
        unfold adv
        rw [Int.sub_self, Int.mul_zero]
        omega
      · rw [List.length_append, List.length_singleton] at hj
        rcases Nat.lt_or_ge j (idx B S J t s n).length with hl | hl
        · rw [psd_sub_append hl]; exact h2 j hl
        · obtain rfl : j = (idx B S J t s n).length := by omega
          exact hlast
    · rw [if_neg hp, List.append_nil] at hs
      rw [hs]
      refine ⟨?_, h2⟩
      show next _ _ _ _ _ _ _ = adv _ _ _ _ _ (t n)
      unfold next
      rw [if_neg (by unfold psd at hp; exact hp)]
      exact hadv


/-! ### scaling -/
theorem mul_min {f a b : Int} (hf : 0 ≤ f) : f * min a b = min (f * a) (f * b) := by
  rcases Int.le_total a b with h | h
  · have := mul_mono hf h
    rw [Int.min_eq_left h, Int.min_eq_left this]
  · have := mul_mono hf h
    rw [Int.min_eq_right h, Int.min_eq_right this]
theorem mul_max {f a b : Int} (hf : 0 ≤ f) : f * max a b = max (f * a) (f * b) := by
  rcases Int.le_total a b with h | h
  · have := mul_mono hf h
    rw [Int.max_eq_right h, Int.max_eq_right this]
  · have := mul_mono hf h
    rw [Int.max_eq_left h, Int.max_eq_left this]
theorem mul_le_iff {f a b : Int} (hf : 1 ≤ f) : f * a ≤ f * b ↔ a ≤ b := by
  constructor
  · intro h; exact Int.le_of_mul_le_mul_left h (by omega)
  · exact mul_mono (by omega)

theorem adv_scaled {f B S J L C t : Int} (hf : 1 ≤ f) : adv (f * B) S (f * J) (f * L) (f * C) (f * t) = f * adv B S J L C t := by
  unfold adv
  rw [mul_min (by omega)]
  have e1 : S * (f * B + f * J) = f * (S * (B + J)) := by rw [← Int.mul_add, Int.mul_left_comm]
  have e2 : f * L + S * (f * t - f * C) = f * (L + S * (t - C)) := by rw [← Int.mul_sub, Int.mul_add, Int.mul_left_comm S]
  rw [e1, e2]
theorem good_scaled {f B S J L C t s : Int} (hf : 1 ≤ f) : good (f * B) S (f * J) (f * L) (f * C) (f * t) s = good B S J L C t s := by
  unfold good
  rw [adv_scaled hf, Int.mul_left_comm s]
  congr 1
  exact decide_eq_decide.2 (mul_le_iff hf)
theorem next_scaled {f B S J L C t s : Int} (hf : 1 ≤ f) : next (f * B) S (f * J) (f * L) (f * C) (f * t) s = f * next B S J L C t s := by
  unfold next
  rw [good_scaled hf, adv_scaled hf]
  split
  · rw [Int.mul_sub, Int.mul_left_comm s]
  · rfl
theorem clk_scaled {f : Int} {t : Nat → Int} : ∀ k, clk (fun i => f * t i) k = f * clk t k
  | 0 => by show 0 = f * 0; omega
  | _ + 1 => rfl
theorem lev_scaled {f B S J : Int} {t s : Nat → Int} (hf : 1 ≤ f) : ∀ k, lev (f * B) S (f * J) (fun i => f * t i) s k = f * lev B S J t s k
  | 0 => by show S * (f * B + f * J) = f * (S * (B + J)); rw [← Int.mul_add, Int.mul_left_comm]
  | k + 1 => by
    show next (f * B) S (f * J) _ _ _ _ = _
    rw [lev_scaled hf k, clk_scaled]
    exact next_scaled hf
theorem psd_scaled {f B S J : Int} {t s : Nat → Int} (hf : 1 ≤ f) (k : Nat) : psd (f * B) S (f * J) (fun i => f * t i) s k = psd B S J t s k := by
  unfold psd
  rw [lev_scaled hf, clk_scaled]
  exact good_scaled hf
theorem idx_scaled {f B S J : Int} {t s : Nat → Int} (hf : 1 ≤ f) (n : Nat) : idx (f * B) S (f * J) (fun i => f * t i) s n = idx B S J t s n := by
  unfold idx
  congr 1
  funext k
  exact psd_scaled hf k
theorem rr_scaled {f B J : Int} {t : Nat → Int} (hf : 1 ≤ f) : ∀ k, -1048576 ≤ t 0 - J → -1048576 ≤ f * (t 0 - J) → rr (f * B) (f * J) (fun i => f * t i) k = f * rr B J t k
  | 0, h1, h2 => by
    show max (f * t 0 - f * J) (-1048576) = f * max (t 0 - J) (-1048576)
    rw [Int.max_eq_left h1, ← Int.mul_sub, Int.max_eq_left h2]
  | k + 1, h1, h2 => by
    show max (f * t (k + 1) - f * J) (rr (f * B) (f * J) (fun i => f * t i) k + f * B) = f * max (t (k + 1) - J) (rr B J t k + B)
    rw [rr_scaled hf k h1 h2, mul_max (by omega), Int.mul_sub, Int.mul_add]
theorem Conf_scaled {f B S J : Int} {t s : Nat → Int} {n : Nat} (hf : 1 ≤ f) (hf2 : f ≤ 20) (hJ : J ≤ 50000) (_hJ0 : 0 ≤ J) (ht : ∀ k, k < n → 0 ≤ t k ∧ t k ≤ 50000000) :
    Conf (f * B) S (f * J) (fun i => f * t i) s n = Conf B S J t s n := by
  rw [Bool.eq_iff_iff, Conf_iff, Conf_iff]
  refine forall_congr' fun k => forall_congr' fun hk => ?_
  have h0 := ht 0 (by omega)
  have hk' := ht k hk
  have e := rr_scaled (f := f) (B := B) (J := J) (t := t) hf k (by omega) (by have : f * (t 0 - J) ≥ f * (-50000) := mul_mono (by omega) (by omega); omega)
  have u1 : 0 ≤ f * t k := Int.mul_nonneg (by omega) hk'.1
  have u2 : f * t k ≤ 20 * t k := Int.mul_le_mul_of_nonneg_right hf2 hk'.1
  simp only [conf, fits, Bool.and_eq_true, decide_eq_true_eq]
  rw [e, mul_le_iff hf]
  constructor
  · rintro ⟨⟨⟨⟨⟨a, _⟩, _⟩, d⟩, g⟩, m⟩
    exact ⟨⟨⟨⟨⟨a, by omega⟩, by omega⟩, d⟩, g⟩, fun h => (mul_le_iff hf).1 (m h)⟩
  · rintro ⟨⟨⟨⟨⟨a, _⟩, _⟩, d⟩, g⟩, m⟩
    exact ⟨⟨⟨⟨⟨a, u1⟩, by omega⟩, d⟩, g⟩, fun h => (mul_le_iff hf).2 (m h)⟩

/-! ### a full account, a burst, refills -/
theorem burst_step {B S J i : Int} (hB : 1 ≤ B) (hS : 1 ≤ S) (_hJ : 0 ≤ J) (_h0 : 0 ≤ i) (hi : i ≤ (B + J) / B) :
    good B S J (S * (B + J) - i * (S * B)) 0 0 S = decide (i < (B + J) / B) ∧
    next B S J (S * (B + J) - i * (S * B)) 0 0 S = S * (B + J) - (if i < (B + J) / B then i + 1 else i) * (S * B) := by
  have hSB : 1 ≤ S * B := Int.mul_pos (by omega) (by omega)
  have hq : (B + J) / B * B ≤ B + J := Int.ediv_mul_le _ (by omega)
  have hr : B + J < ((B + J) / B + 1) * B := Int.lt_mul_of_ediv_lt (by omega) (by omega)
  have h1 : S * ((B + J) / B * B) ≤ S * (B + J) := mul_mono (by omega) hq
  have h2 : S * (B + J) < S * (((B + J) / B + 1) * B) := Int.mul_lt_mul_of_pos_left hr (by omega)
  have h3 : S * ((B + J) / B * B) = (B + J) / B * (S * B) := Int.mul_left_comm ..
  have h4 : S * (((B + J) / B + 1) * B) = ((B + J) / B + 1) * (S * B) := Int.mul_left_comm ..
  have h5 : ((B + J) / B + 1) * (S * B) = (B + J) / B * (S * B) + S * B := by rw [Int.add_mul, Int.one_mul]
  have hi0 : 0 ≤ i * (S * B) := Int.mul_nonneg (by omega) (by omega)
  have ha : adv B S J (S * (B + J) - i * (S * B)) 0 0 = S * (B + J) - i * (S * B) := by
    unfold adv
    rw [Int.sub_self, Int.mul_zero]
    omega
  have hg : good B S J (S * (B + J) - i * (S * B)) 0 0 S = decide (i < (B + J) / B) := by
    unfold good
    rw [ha]
    rw [show decide (S ≤ S) = true by simp, Bool.true_and]
    refine decide_eq_decide.2 ⟨fun h => ?_, fun h => ?_⟩
    · refine Classical.byContradiction fun h' => ?_
      obtain rfl : i = (B + J) / B := by omega
      omega
    · have : (i + 1) * (S * B) ≤ (B + J) / B * (S * B) := Int.mul_le_mul_of_nonneg_right (by omega) (by omega)
      rw [Int.add_mul, Int.one_mul] at this
      omega
  refine ⟨hg, ?_⟩
  unfold next
  rw [hg, ha]
  by_cases h : i < (B + J) / B
  · rw [if_pos (by simpa using h), if_pos h, Int.add_mul, Int.one_mul]; omega
  · rw [if_neg (by simpa using h), if_neg h]

/-- what is left when the burst is over: less than a frame's cost, and at most what the jitter gives -/
theorem rest_bd {B S J : Int} (hB : 1 ≤ B) (hS : 1 ≤ S) (_hJ : 0 ≤ J) : 0 ≤ S * (B + J) - (B + J) / B * (S * B) ∧ S * (B + J) - (B + J) / B * (S * B) < S * B ∧ S * (B + J) - (B + J) / B * (S * B) ≤ S * J := by
  have hq : (B + J) / B * B ≤ B + J := Int.ediv_mul_le _ (by omega)
  have hr : B + J < ((B + J) / B + 1) * B := Int.lt_mul_of_ediv_lt (by omega) (by omega)
  have h1 : S * ((B + J) / B * B) ≤ S * (B + J) := mul_mono (by omega) hq
  have h2 : S * (B + J) < S * (((B + J) / B + 1) * B) := Int.mul_lt_mul_of_pos_left hr (by omega)
  have h3 : S * ((B + J) / B * B) = (B + J) / B * (S * B) := Int.mul_left_comm ..
  have h4 : S * (((B + J) / B + 1) * B) = ((B + J) / B + 1) * (S * B) := Int.mul_left_comm ..
  have h5 : ((B + J) / B + 1) * (S * B) = (B + J) / B * (S * B) + S * B := by rw [Int.add_mul, Int.one_mul]
  have h6 : 1 ≤ (B + J) / B := by rw [Int.le_ediv_iff_mul_le (by omega)]; omega
  have h7 : 1 * (S * B) ≤ (B + J) / B * (S * B) := Int.mul_le_mul_of_nonneg_right h6 (Int.mul_nonneg (by omega) (by omega))
  have h8 : S * (B + J) = S * B + S * J := Int.mul_add ..
  omega

/-- a bag later one frame passes, and no second one -/
theorem refill_step {B S J L C : Int} (hB : 1 ≤ B) (hS : 1 ≤ S) (_hJ : 0 ≤ J) (hL0 : 0 ≤ L) (hL : L < S * B) (hLJ : L ≤ S * J) :
    good B S J L C (C + B) S = true ∧ next B S J L C (C + B) S = L ∧ good B S J L (C + B) (C + B) S = false ∧ next B S J L (C + B) (C + B) S = L := by
  have h8 : S * (B + J) = S * B + S * J := Int.mul_add ..
  have hSB : 1 ≤ S * B := Int.mul_pos (by omega) (by omega)
  have a1 : adv B S J L C (C + B) = L + S * B := by
    unfold adv
    have : S * (C + B - C) = S * B := by congr 1; omega
    omega
  have a2 : adv B S J L (C + B) (C + B) = L := by
    unfold adv
    rw [Int.sub_self, Int.mul_zero]
    omega
  have g1 : good B S J L C (C + B) S = true := by simp [good, a1]; omega
  have g2 : good B S J L (C + B) (C + B) S = false := by simp [good, a2]; omega
  refine ⟨g1, ?_, g2, ?_⟩
  · unfold next; rw [if_pos g1, a1]; omega
  · unfold next; rw [if_neg (by rw [g2]; simp), a2]

theorem full_again {B S J L C : Int} (_hB : 1 ≤ B) (hS : 1 ≤ S) (_hJ : 0 ≤ J) (hL0 : 0 ≤ L) :
    good B S J L C (C + B + J) (S + 1) = false ∧ next B S J L C (C + B + J) (S + 1) = S * (B + J) := by
  have g : good B S J L C (C + B + J) (S + 1) = false := by simp [good]; intro h; omega
  refine ⟨g, ?_⟩
  unfold next
  rw [if_neg (by rw [g]; simp)]
  unfold adv
  have : S * (C + B + J - C) = S * (B + J) := by congr 1; omega
  have := Int.mul_nonneg (a := S) (b := B + J) (by omega) (by omega)
  omega
end Go.Proofs.Ytknfhbhaencdjaa.Pol
