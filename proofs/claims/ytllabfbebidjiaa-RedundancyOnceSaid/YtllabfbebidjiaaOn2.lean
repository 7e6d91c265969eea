/-
  The plain law of RedundancyOnce, its step: a frame's arrivals. No program in sight; no condition but the law's own numbers.
-/
import Derived.Test.YtllabfbebidjiaaOn1
namespace Go.Proofs.Ytllabfbebidjiaa
variable {st S : Int} {G X Y : Nat → Int} {P R : Nat → Bool}
theorem offer_two {s : St} {q t : Int} (h : okq s q t = true) :
    (t < s.nxt q.toNat ∧ offer s q t = ({ s with now := t, drp := s.drp + 1 }, false, 0)) ∨ (¬ t < s.nxt q.toNat ∧ offer s q t = ({ s with now := t, nxt := fun j => if j = q.toNat then t + s.skew + 1 else s.nxt j, del := s.del + 1 }, true, 0)) := by
  unfold offer
  rw [if_pos h]
  by_cases hl : t < s.nxt q.toNat
  · left; exact ⟨hl, if_pos hl⟩
  · right; exact ⟨hl, if_neg hl⟩
/-- what Merge's state is ahead of frame i -/
structure On (st S : Int) (G : Nat → Int) (P R : Nat → Bool) (i : Nat) (m : MS) : Prop where
  n0 : 0 ≤ m.now
  n1 : m.now ≤ tq G i + 19
  s1 : m.sel.now ≤ m.now
  sk : m.sel.skew = S
  nxt : ∀ x : Nat, x < 256 → m.sel.nxt x = 0 ∨ ∃ f, f < i ∧ sq st f = x ∧ m.sel.nxt x ≤ tq G (f + 1) + 20 + S
  na : NetI st (lo P) i (m.so 0) (m.p 0)
  nb : NetI st (lo R) i (m.so 1) (m.p 1)
theorem On.start : On st S G P R 0 ⟨.new S, 0, fun _ => 0, fun _ => false⟩ := ⟨by simp, by simp [tq], by simp [St.new], rfl, fun x _ => .inl rfl, .inl rfl, .inl rfl⟩
/-- the state behind a first copy -/
structure Fst (st S : Int) (i : Nat) (x t : Int) (m m' : MS) : Prop where
  now : m'.now = t
  snow : m'.sel.now = t
  sk : m'.sel.skew = S
  own : m'.sel.nxt (sq st i).toNat = t + S + 1
  oth : ∀ y, y ≠ (sq st i).toNat → m'.sel.nxt y = m.sel.nxt y
  so : m'.so x.toNat = true
  p : m'.p x.toNat = sq st i
  rso : ∀ j, j ≠ x.toNat → m'.so j = m.so j
  rp : ∀ j, j ≠ x.toNat → m'.p j = m.p j
theorem step1 (h0 : 0 ≤ st) (h1 : st ≤ 255) (hG : ∀ i, 0 ≤ G i) (hS : S ≤ 5079) {i : Nat} {m : MS} (h : On st S G P R i m) {x t : Int} (hx : 0 ≤ x ∧ x ≤ 1) (ha : adm (m.so x.toNat) (m.p x.toNat) (sq st i) = true)
    (t0 : tq G (i + 1) ≤ t) (t1 : t ≤ tq G (i + 1) + 19) (hi : i < 300) : mgOk m.now x (sq st i) t = true ∧ ∃ m', mgStep m x (sq st i) t = (m', true) ∧ Fst st S i x t m m' := by
  have hb := sq_bd h0 h1 i
  have hbd := tq_bd hG (i + 1)
  have hg := hG i
  have htq : tq G (i + 1) = tq G i + (20 + G i % 50) := rfl
  have hn := h.n1
  have hn0 := h.n0
  have hs := h.s1
  have hN : isN (sq st i) = true := isN_mk hb.1 hb.2
  refine ⟨?_, ?_⟩
  · unfold mgOk mvs
    rw [hN]
    simp only [Bool.and_eq_true, decide_eq_true_eq, Bool.and_true]
    push_cast at hbd
    omega
  · have hok : okq m.sel (sq st i) t = true := by
      unfold okq mvs
      rw [hN]
      simp only [Bool.and_eq_true, decide_eq_true_eq, Bool.true_and]
      push_cast at hbd
      omega
    have hlt : ¬ t < m.sel.nxt (sq st i).toNat := by
      rcases h.nxt (sq st i).toNat (by omega) with h2 | ⟨f, hf, h2, h3⟩
      · rw [h2]; omega
      · have hfar := sq_far h0 h1 hf (h2.trans (by omega))
        have hgrow := tq_far hG (f := f + 1) (i - f)
        rw [show f + 1 + (i - f) = i + 1 by omega] at hgrow
        have : (255 : Int) ≤ ((i - f : Nat) : Int) := by omega
        omega
    rcases offer_two hok with ⟨h2, _⟩ | ⟨_, h3⟩
    · exact absurd h2 hlt
    · unfold mgStep
      rw [if_pos ha, h3]
      refine ⟨_, rfl, rfl, rfl, h.sk, ?_, fun y hy => ?_, ?_, ?_, fun j hj => ?_, fun j hj => ?_⟩
      · show (if (sq st i).toNat = (sq st i).toNat then t + m.sel.skew + 1 else _) = _
        rw [if_pos rfl, h.sk]
      · show (if y = (sq st i).toNat then t + m.sel.skew + 1 else _) = _
        rw [if_neg hy]
      · show (if x.toNat = x.toNat then true else _) = true
        rw [if_pos rfl]
      · show (if x.toNat = x.toNat then sq st i else _) = _
        rw [if_pos rfl]
      · show (if j = x.toNat then true else _) = _
        rw [if_neg hj]
      · show (if j = x.toNat then sq st i else _) = _
        rw [if_neg hj]
/-- the state behind a second copy -/
structure Snd (st S : Int) (i : Nat) (x t : Int) (m m' : MS) : Prop where
  now : m'.now = t
  snow : m'.sel.now = t
  sk : m'.sel.skew = S
  nxt : m'.sel.nxt = m.sel.nxt
  so : m'.so x.toNat = true
  p : m'.p x.toNat = sq st i
  rso : ∀ j, j ≠ x.toNat → m'.so j = m.so j
  rp : ∀ j, j ≠ x.toNat → m'.p j = m.p j
theorem step2 (h0 : 0 ≤ st) (h1 : st ≤ 255) (hS0 : 19 ≤ S) {i : Nat} {m : MS} {x t tt : Int} (hx : 0 ≤ x ∧ x ≤ 1) (hnow : m.now = tt) (hsn : m.sel.now = tt) (hsk : m.sel.skew = S) (hown : m.sel.nxt (sq st i).toNat = tt + S + 1) (ha : adm (m.so x.toNat) (m.p x.toNat) (sq st i) = true)
    (t0 : tt ≤ t) (t1 : t ≤ tt + 19) (t2 : t ≤ 1073741824) : mgOk m.now x (sq st i) t = true ∧ ∃ m', mgStep m x (sq st i) t = (m', false) ∧ Snd st S i x t m m' := by
  have hb := sq_bd h0 h1 i
  have hN : isN (sq st i) = true := isN_mk hb.1 hb.2
  refine ⟨?_, ?_⟩
  · unfold mgOk mvs
    rw [hN]
    simp only [Bool.and_eq_true, decide_eq_true_eq, Bool.and_true]
    omega
  · have hok : okq m.sel (sq st i) t = true := by
      unfold okq mvs
      rw [hN]
      simp only [Bool.and_eq_true, decide_eq_true_eq, Bool.true_and]
      omega
    rcases offer_two hok with ⟨_, h3⟩ | ⟨h2, _⟩
    · unfold mgStep
      rw [if_pos ha, h3]
      refine ⟨_, rfl, rfl, rfl, hsk, rfl, ?_, ?_, fun j hj => ?_, fun j hj => ?_⟩
      · show (if x.toNat = x.toNat then true else _) = true
        rw [if_pos rfl]
      · show (if x.toNat = x.toNat then sq st i else _) = _
        rw [if_pos rfl]
      · show (if j = x.toNat then true else _) = _
        rw [if_neg hj]
      · show (if j = x.toNat then sq st i else _) = _
        rw [if_neg hj]
    · rw [hown] at h2
      omega
/-- the state ahead of the next frame, from the state behind this frame's arrivals -/
theorem On.next (hG : ∀ i, 0 ≤ G i) {i : Nat} {m m' : MS} (h : On st S G P R i m) (n0 : tq G (i + 1) ≤ m'.now) (n1 : m'.now ≤ tq G (i + 1) + 19) (s1 : m'.sel.now ≤ m'.now) (sk : m'.sel.skew = S)
    (own : m'.sel.nxt (sq st i).toNat ≤ tq G (i + 1) + 20 + S) (hsq : 0 ≤ sq st i) (oth : ∀ y, y ≠ (sq st i).toNat → m'.sel.nxt y = m.sel.nxt y) (na : NetI st (lo P) (i + 1) (m'.so 0) (m'.p 0)) (nb : NetI st (lo R) (i + 1) (m'.so 1) (m'.p 1)) : On st S G P R (i + 1) m' where
  n0 := Int.le_trans (tq_bd hG (i + 1)).1 n0
  n1 := n1
  s1 := s1
  sk := sk
  nxt x hx := by
    by_cases e : x = (sq st i).toNat
    · right
      exact ⟨i, by omega, by omega, by rw [e]; exact own⟩
    · rcases h.nxt x hx with h2 | ⟨f, hf, h2, h3⟩
      · left; rw [oth x e]; exact h2
      · right; exact ⟨f, by omega, h2, by rw [oth x e]; exact h3⟩
  na := na
  nb := nb
theorem On.idle (hG : ∀ i, 0 ≤ G i) {i : Nat} {m : MS} (h : On st S G P R i m) (ha : lo P (i + 1) = true) (hb : lo R (i + 1) = true) : On st S G P R (i + 1) m where
  n0 := h.n0
  n1 := by have := h.n1; have := hG i; rw [tq]; omega
  s1 := h.s1
  sk := h.sk
  nxt x hx := by
    rcases h.nxt x hx with h2 | ⟨f, hf, h2, h3⟩
    · exact .inl h2
    · exact .inr ⟨f, by omega, h2, h3⟩
  na := h.na.lost ha
  nb := h.nb.lost hb
theorem frame (h0 : 0 ≤ st) (h1 : st ≤ 255) (hG : ∀ i, 0 ≤ G i) (hX : ∀ i, 0 ≤ X i) (hY : ∀ i, 0 ≤ Y i) (hS0 : 19 ≤ S) (hS : S ≤ 5079) {i : Nat} {m : MS} (h : On st S G P R i m) (hi : i < 300) :
    okL m (ev st G X Y P R i) = true ∧ On st S G P R (i + 1) (runL m (ev st G X Y P R i)) ∧ ∀ p, p ≠ some i → outL m (ev st G X Y P R i) = fsts p ((ev st G X Y P R i).map fun _ => i) := by
  have hx := hX i
  have hy := hY i
  have hsq := (sq_bd h0 h1 i).1
  have hbd := (tq_bd hG (i + 1)).2
  have x0 : 0 ≤ X i % 20 ∧ X i % 20 ≤ 19 := by omega
  have y0 : 0 ≤ Y i % 20 ∧ Y i % 20 ≤ 19 := by omega
  have hlim : tq G (i + 1) + 19 ≤ 1073741824 := by push_cast at hbd; omega
  unfold ev
  obtain ⟨xx, hxx⟩ : ∃ xx, X i % 20 = xx := ⟨_, rfl⟩
  obtain ⟨yy, hyy⟩ : ∃ yy, Y i % 20 = yy := ⟨_, rfl⟩
  rw [hxx] at x0
  rw [hyy] at y0
  rw [hxx, hyy]
  obtain ⟨t, ht⟩ : ∃ t, tq G (i + 1) = t := ⟨_, rfl⟩
  have A0 : adm (m.so (0 : Int).toNat) (m.p (0 : Int).toNat) (sq st i) = true := h.na.adm
  have A1 : adm (m.so (1 : Int).toNat) (m.p (1 : Int).toNat) (sq st i) = true := h.nb.adm
  cases ha : lo P (i + 1) with
  | true =>
    cases hb : lo R (i + 1) with
    | true =>
      have he : (if yy < xx ∧ true = false then [((1 : Int), sq st i, tq G (i + 1) + yy)] else []) ++ ((if true = false then [((0 : Int), sq st i, tq G (i + 1) + xx)] else []) ++ (if xx ≤ yy ∧ true = false then [((1 : Int), sq st i, tq G (i + 1) + yy)] else [])) = ([] : List Ev) := by simp
      rw [he]
      exact ⟨rfl, h.idle hG ha hb, fun p _ => rfl⟩
    | false =>
      have he : (if yy < xx ∧ false = false then [((1 : Int), sq st i, tq G (i + 1) + yy)] else []) ++ ((if true = false then [((0 : Int), sq st i, tq G (i + 1) + xx)] else []) ++ (if xx ≤ yy ∧ false = false then [((1 : Int), sq st i, tq G (i + 1) + yy)] else [])) = ([(1, sq st i, tq G (i + 1) + yy)] : List Ev) := by
        by_cases hc : yy < xx
        · simp [hc]
        · simp [hc]
      rw [he]
      obtain ⟨o1, m', e1, f1⟩ := step1 h0 h1 hG hS h (x := 1) (t := tq G (i + 1) + yy) (by omega) A1 (by omega) (by omega) hi
      simp only [okL, runL, outL, o1, e1]
      refine ⟨rfl, h.next hG (by rw [f1.now]; omega) (by rw [f1.now]; omega) (by rw [f1.now, f1.snow]; exact Int.le_refl _) f1.sk (by rw [f1.own]; omega) hsq f1.oth ?_ ?_, fun p hp => by simp [fsts, hp]⟩
      · rw [f1.rso 0 (by decide), f1.rp 0 (by decide)]; exact h.na.lost ha
      · have q1 : m'.so 1 = true := f1.so
        have q2 : m'.p 1 = sq st i := f1.p
        rw [q1, q2]; exact NetI.got
  | false =>
    cases hb : lo R (i + 1) with
    | true =>
      have he : (if yy < xx ∧ true = false then [((1 : Int), sq st i, tq G (i + 1) + yy)] else []) ++ ((if false = false then [((0 : Int), sq st i, tq G (i + 1) + xx)] else []) ++ (if xx ≤ yy ∧ true = false then [((1 : Int), sq st i, tq G (i + 1) + yy)] else [])) = ([(0, sq st i, tq G (i + 1) + xx)] : List Ev) := by simp
      rw [he]
      obtain ⟨o1, m', e1, f1⟩ := step1 h0 h1 hG hS h (x := 0) (t := tq G (i + 1) + xx) (by omega) A0 (by omega) (by omega) hi
      simp only [okL, runL, outL, o1, e1]
      refine ⟨rfl, h.next hG (by rw [f1.now]; omega) (by rw [f1.now]; omega) (by rw [f1.now, f1.snow]; exact Int.le_refl _) f1.sk (by rw [f1.own]; omega) hsq f1.oth ?_ ?_, fun p hp => by simp [fsts, hp]⟩
      · have q1 : m'.so 0 = true := f1.so
        have q2 : m'.p 0 = sq st i := f1.p
        rw [q1, q2]; exact NetI.got
      · rw [f1.rso 1 (by decide), f1.rp 1 (by decide)]; exact h.nb.lost hb
    | false =>
      by_cases hc : yy < xx
      · have he : (if yy < xx ∧ false = false then [((1 : Int), sq st i, tq G (i + 1) + yy)] else []) ++ ((if false = false then [((0 : Int), sq st i, tq G (i + 1) + xx)] else []) ++ (if xx ≤ yy ∧ false = false then [((1 : Int), sq st i, tq G (i + 1) + yy)] else [])) = ([(1, sq st i, tq G (i + 1) + yy), (0, sq st i, tq G (i + 1) + xx)] : List Ev) := by
          have : ¬ xx ≤ yy := by omega
          simp [hc, this]
        rw [he]
        obtain ⟨o1, m', e1, f1⟩ := step1 h0 h1 hG hS h (x := 1) (t := tq G (i + 1) + yy) (by omega) A1 (by omega) (by omega) hi
        obtain ⟨o2, m2, e2, f2⟩ := step2 (m := m') h0 h1 hS0 (x := 0) (t := tq G (i + 1) + xx) (by omega) f1.now f1.snow f1.sk f1.own (by rw [f1.rso _ (by decide), f1.rp _ (by decide)]; exact A0) (by omega) (by omega) (by omega)
        simp only [okL, runL, outL, o1, e1, o2, e2]
        refine ⟨rfl, h.next hG (by rw [f2.now]; omega) (by rw [f2.now]; omega) (by rw [f2.now, f2.snow]; exact Int.le_refl _) f2.sk (by rw [f2.nxt, f1.own]; omega) hsq (fun y hy => by rw [f2.nxt]; exact f1.oth y hy) ?_ ?_, fun p hp => by simp [fsts, hp]⟩
        · have q1 : m2.so 0 = true := f2.so
          have q2 : m2.p 0 = sq st i := f2.p
          rw [q1, q2]; exact NetI.got
        · have q1 : m2.so 1 = true := (f2.rso 1 (by decide)).trans f1.so
          have q2 : m2.p 1 = sq st i := (f2.rp 1 (by decide)).trans f1.p
          rw [q1, q2]; exact NetI.got
      · have he : (if yy < xx ∧ false = false then [((1 : Int), sq st i, tq G (i + 1) + yy)] else []) ++ ((if false = false then [((0 : Int), sq st i, tq G (i + 1) + xx)] else []) ++ (if xx ≤ yy ∧ false = false then [((1 : Int), sq st i, tq G (i + 1) + yy)] else [])) = ([(0, sq st i, tq G (i + 1) + xx), (1, sq st i, tq G (i + 1) + yy)] : List Ev) := by
          have : xx ≤ yy := by omega
          simp [hc, this]
        rw [he]
        obtain ⟨o1, m', e1, f1⟩ := step1 h0 h1 hG hS h (x := 0) (t := tq G (i + 1) + xx) (by omega) A0 (by omega) (by omega) hi
        obtain ⟨o2, m2, e2, f2⟩ := step2 (m := m') h0 h1 hS0 (x := 1) (t := tq G (i + 1) + yy) (by omega) f1.now f1.snow f1.sk f1.own (by rw [f1.rso _ (by decide), f1.rp _ (by decide)]; exact A1) (by omega) (by omega) (by omega)
        simp only [okL, runL, outL, o1, e1, o2, e2]
        refine ⟨rfl, h.next hG (by rw [f2.now]; omega) (by rw [f2.now]; omega) (by rw [f2.now, f2.snow]; exact Int.le_refl _) f2.sk (by rw [f2.nxt, f1.own]; omega) hsq (fun y hy => by rw [f2.nxt]; exact f1.oth y hy) ?_ ?_, fun p hp => by simp [fsts, hp]⟩
        · have q1 : m2.so 0 = true := (f2.rso 0 (by decide)).trans f1.so
          have q2 : m2.p 0 = sq st i := (f2.rp 0 (by decide)).trans f1.p
          rw [q1, q2]; exact NetI.got
        · have q1 : m2.so 1 = true := f2.so
          have q2 : m2.p 1 = sq st i := f2.p
          rw [q1, q2]; exact NetI.got
theorem fsts_app : ∀ (p : Option Nat) (l k : List Nat), fsts p (l ++ k) = fsts p l ++ fsts (l.getLast?.or p) k
  | p, [], k => by simp [fsts]
  | p, f :: l, k => by
    simp only [List.cons_append, fsts]
    rw [fsts_app (some f) l k]
    congr 3
    cases l with
    | nil => rfl
    | cons g l => rw [List.getLast?_cons_cons, List.getLast?_cons]; rfl
theorem frs_lt : ∀ {n : Nat} {x : Nat}, x ∈ frs st G X Y P R n → x < n
  | 0, _, h => by simp [frs] at h
  | n + 1, x, h => by
    rw [frs, List.mem_append] at h
    rcases h with h | h
    · have := frs_lt h; omega
    · simp only [List.mem_map] at h
      obtain ⟨_, _, rfl⟩ := h
      omega
theorem frs_len : ∀ n, (frs st G X Y P R n).length = (evs st G X Y P R n).length
  | 0 => rfl
  | n + 1 => by rw [frs, evs, List.length_append, List.length_append, frs_len n, List.length_map]
abbrev m0 (S : Int) : MS := ⟨.new S, 0, fun _ => 0, fun _ => false⟩
theorem frames (h0 : 0 ≤ st) (h1 : st ≤ 255) (hG : ∀ i, 0 ≤ G i) (hX : ∀ i, 0 ≤ X i) (hY : ∀ i, 0 ≤ Y i) (hS0 : 19 ≤ S) (hS : S ≤ 5079) : ∀ {n : Nat}, n ≤ 300 →
    okL (m0 S) (evs st G X Y P R n) = true ∧ On st S G P R n (runL (m0 S) (evs st G X Y P R n)) ∧ outL (m0 S) (evs st G X Y P R n) = fsts none (frs st G X Y P R n)
  | 0, _ => ⟨rfl, On.start, rfl⟩
  | n + 1, hn => by
    obtain ⟨e1, e2, e3⟩ := frames h0 h1 hG hX hY hS0 hS (n := n) (by omega)
    obtain ⟨f1, f2, f3⟩ := frame (X := X) (Y := Y) h0 h1 hG hX hY hS0 hS e2 (by omega)
    refine ⟨?_, ?_, ?_⟩
    · rw [evs, okL_app, e1, f1]; rfl
    · rw [evs, runL_app]; exact f2
    · rw [evs, outL_app, frs, fsts_app, e3, f3]
      intro h
      cases hl : (frs st G X Y P R n).getLast? with
      | none => rw [hl] at h; cases h
      | some x =>
        rw [hl] at h
        have := frs_lt (List.mem_of_getLast? hl)
        simp at h
        omega
/-- THE STAGE'S THEOREM: Merge takes all arrivals, and delivers just the first of each frame -/
theorem once (h0 : 0 ≤ st) (h1 : st ≤ 255) (hG : ∀ i, 0 ≤ G i) (hX : ∀ i, 0 ≤ X i) (hY : ∀ i, 0 ≤ Y i) (hS0 : 19 ≤ S) (hS : S ≤ 5079) {n : Nat} (hn : n ≤ 300) :
    mgR S (nF (evs st G X Y P R n)) (qF (evs st G X Y P R n)) (tF (evs st G X Y P R n)) (evs st G X Y P R n).length = (fsts none (frs st G X Y P R n), 0) := by
  obtain ⟨e1, _, e3⟩ := frames (P := P) (R := R) h0 h1 hG hX hY hS0 hS hn
  obtain ⟨_, l2, l3⟩ := lists S (evs st G X Y P R n) (Nat.le_refl _)
  rw [List.take_length] at l2 l3
  unfold mgR
  rw [if_pos (by rw [l3, e1]; simp [okS]; omega), l2, e3]
theorem fsts_at : ∀ {l : List Nat} {p : Option Nat} {i : Nat}, i < l.length → (fsts p l).getD i false = match i with | 0 => decide (p ≠ some (l.getD 0 0)) | j + 1 => decide (l.getD j 0 ≠ l.getD (j + 1) 0)
  | f :: l, p, 0, _ => rfl
  | f :: l, p, i + 1, h => by
    have h' : i < l.length := by simpa using h
    simp only [fsts, List.getD_cons_succ]
    rw [fsts_at h']
    cases i with
    | zero => simp
    | succ j => simp
theorem fsts_len : ∀ (p : Option Nat) (l : List Nat), (fsts p l).length = l.length
  | _, [] => rfl
  | _, f :: l => by simp only [fsts, List.length_cons]; rw [fsts_len]
theorem ev_len (i : Nat) : (ev st G X Y P R i).length ≤ 2 := by
  unfold ev
  rw [List.length_append, List.length_append]
  by_cases h : Y i % 20 < X i % 20
  · have : ¬ X i % 20 ≤ Y i % 20 := by omega
    simp only [h, this, true_and, false_and, if_false]
    split <;> split <;> simp
  · simp only [h, false_and, if_false]
    split <;> split <;> simp
theorem evs_len : ∀ n, (evs st G X Y P R n).length ≤ 2 * n
  | 0 => by simp [evs]
  | n + 1 => by
    have h1 := evs_len n
    have h2 := ev_len (st := st) (G := G) (X := X) (Y := Y) (P := P) (R := R) n
    rw [evs, List.length_append]
    omega
end Go.Proofs.Ytllabfbebidjiaa
