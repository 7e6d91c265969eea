/-
  Two rows of units of one's own; appending units. And changes that are none. No condition but bounds.
-/
import Derived.Test.YtcjbjhkmnfegnaaRw
import Derived.Maps.AppendAt
namespace Go.Proofs.Ytcjbjhkmnfegnaa
open Go.RowKit Go.Shelf
theorem ufl_one (S : Nat → U) : ∀ (k : Nat), ∀ u ∈ ufl S k, u.oneCell' = true
  | 0, u, h => by cases h
  | k + 1, u, h => by
    rw [ufl, List.mem_append] at h
    rcases h with h | h
    · exact ufl_one S k u h
    · exact one_two _ _ u h
theorem ufl_congr {X Y : Nat → U} : ∀ {k : Nat}, (∀ j, j < k → X j = Y j) → ufl X k = ufl Y k
  | 0, _ => rfl
  | k + 1, h => by rw [ufl, ufl, ufl_congr (fun j hj => h j (by omega)), h k (by omega)]
/-- one unit more -/
def snoc (S : Nat → U) (n : Nat) (u : U) (k : Nat) : U := if k = n then u else S k
theorem ufl_snoc (S : Nat → U) (n : Nat) (u : U) : ufl S n ++ [.string u.1, .int .i64 u.2] = ufl (snoc S n u) (n + 1) := by
  rw [ufl, ufl_congr (X := snoc S n u) (Y := S) (fun j hj => by simp [snoc, show j ≠ n by omega])]
  simp [snoc]
theorem unit_cells {w : World} {a : Addr} {n : Nat} {S : Nat → U} (h : UnitsIn w (some a) n S) : ∀ (j : Nat) (u : Value), (ufl S n)[j]? = some u → w.cell? (a.add j) = some u := by
  intro j u hj
  have hl := (List.getElem?_eq_some_iff.1 hj).1
  rw [ufl_len] at hl
  obtain ⟨b, off, hA, _, hc⟩ := h.2 (by omega)
  injection hA with hA
  subst hA
  obtain ⟨q, hq⟩ : ∃ q, j / 2 = q := ⟨_, rfl⟩
  obtain ⟨c0, c1⟩ := hc q (by omega)
  obtain ⟨d0, d1⟩ := ufl_at S n q (by omega)
  rw [add_eq]
  have h3 : j = q * 2 ∨ j = q * 2 + 1 := by omega
  rcases h3 with rfl | rfl
  · rw [d0] at hj; injection hj with hj; rw [← hj]; exact c0
  · rw [d1] at hj; injection hj with hj; rw [← hj]; exact c1
theorem own_none40 (w : World) : (w.alloc (.cells #[] 40)).ownsRow w.heap.size 40 2 (.slice (some ⟨w.heap.size, 0, none⟩) 0 0) 0 (ufl (fun _ => default) 0) :=
  ⟨rfl, .inr ⟨w.heap.size, 0, #[], rfl, Nat.le_refl _, heap_alloc_new w _, Nat.le_refl _, by unfold maxLen; omega, rfl, rfl⟩⟩
section
variable {w : World}
theorem wp_append_u {o : Oper} {a : Act} {K : Act → World → Prop} {Q : Exit → Act → World → Prop} (s x : Operand)
    (ho : o.op = .call { callee := .builtin .append, args := #[s, x], argTypes := #[23, 23] })
    (base : Nat) (v : Value) (n : Nat) (xs : List Value) (hs : a.eval s = v) (hown : w.ownsRow base 40 2 v n xs)
    (ad : Addr) (m c : Nat) (news : List Value) (hx : a.eval x = .slice (some ad) m c) (hl : news.length = m * 2) (hnews : ∀ j u, news[j]? = some u → w.cell? (ad.add j) = some u) (h1 : ∀ u ∈ news, u.oneCell' = true)
    (hb : n + m ≤ 1000) (hbase : base ≤ w.heap.size)
    (h : ∀ v' w', w'.ownsRow base 40 2 v' (n + m) (xs ++ news) → w.grownBy w' v.ownBlock → (v'.ownBlock = v.ownBlock ∨ v'.ownBlock = some w.heap.size) → K (a.put o.dst v') w') : o.wp Try.prog a w K Q := by
  obtain ⟨i0, hi, hz0, hz1, hz2⟩ := info_parts Try.info40
  obtain ⟨v', w', hr, h2, h3, _, h5⟩ := run_append_own_at (P := Try.prog) w base 23 o.type 40 i0 _ 2 24 Try.underlying23 hi hz0 hz1 hz2 rfl (by decide) v n xs hown ad m c news hl hnews h1 (by unfold maxLen; omega) (by omega) hbase
  unfold Oper.wp execOp
  simp only [ho, resolve, invoke, builtin, Sem.run_bind, Sem.run_pure, Result.andThen_ok, List.map_toArray, List.map_cons, List.map_nil, hs, hx, hr]
  exact h v' w' h2 h3 h5
theorem wpList_append_u {ops : Array Oper} {rest : List Oper} {o : Oper} {a : Act} {Q : Exit → Act → World → Prop} (hgd : o.guard = none) (s x : Operand)
    (ho : o.op = .call { callee := .builtin .append, args := #[s, x], argTypes := #[23, 23] })
    (base : Nat) (v : Value) (n : Nat) (xs : List Value) (hs : a.eval s = v) (hown : w.ownsRow base 40 2 v n xs)
    (ad : Addr) (m c : Nat) (news : List Value) (hx : a.eval x = .slice (some ad) m c) (hl : news.length = m * 2) (hnews : ∀ j u, news[j]? = some u → w.cell? (ad.add j) = some u) (h1 : ∀ u ∈ news, u.oneCell' = true)
    (hb : n + m ≤ 1000) (hbase : base ≤ w.heap.size)
    (h : ∀ v' w', w'.ownsRow base 40 2 v' (n + m) (xs ++ news) → w.grownBy w' v.ownBlock → (v'.ownBlock = v.ownBlock ∨ v'.ownBlock = some w.heap.size) → wpList Try.prog ops Q rest (a.put o.dst v') w') : wpList Try.prog ops Q (o :: rest) a w :=
  wpList_plain hgd fun _ hK => wp_append_u s x ho base v n xs hs hown ad m c news hx hl hnews h1 hb hbase fun v' w' h2 h3 h4 => hK _ _ (h v' w' h2 h3 h4)
theorem step_append_u {ops : Array Oper} {o : Oper} {a : Act} {K : Act → World → Prop} {Q : Exit → Act → World → Prop} {E : Prop} (hgd : o.guard = none) (d : Nat) (hd : o.dst = some d) (s x : Operand)
    (ho : o.op = .call { callee := .builtin .append, args := #[s, x], argTypes := #[23, 23] })
    (base : Nat) (v : Value) (n : Nat) (xs : List Value) (hs : a.eval s = v) (hown : w.ownsRow base 40 2 v n xs)
    (ad : Addr) (m c : Nat) (news : List Value) (hx : a.eval x = .slice (some ad) m c) (hl : news.length = m * 2) (hnews : ∀ j u, news[j]? = some u → w.cell? (ad.add j) = some u) (h1 : ∀ u ∈ news, u.oneCell' = true)
    (hb : n + m ≤ 1000) (hbase : base ≤ w.heap.size)
    (h : ∀ v' w', w'.ownsRow base 40 2 v' (n + m) (xs ++ news) → w.grownBy w' v.ownBlock → (v'.ownBlock = v.ownBlock ∨ v'.ownBlock = some w.heap.size) → K (a.put (some d) v') w') :
    if Region.wanted o (yielded ops a.tmps) = true then Oper.wp Try.prog o a w K Q else E := by
  have hw : Region.wanted o (yielded ops a.tmps) = true := by simp [Region.wanted, hgd]
  rw [if_pos hw]
  exact wp_append_u s x ho base v n xs hs hown ad m c news hx hl hnews h1 hb hbase fun v' w' h2 h3 h4 => by rw [hd]; exact h v' w' h2 h3 h4
end
/-- two rows of units, in different blocks, all of the call's own -/
structure Two (B : Nat) (W : World) (va vb : Value) (na nb : Nat) (Sa Sb : Nat → U) : Prop where
  ra : W.ownsRow B 40 2 va na (ufl Sa na)
  rb : W.ownsRow B 40 2 vb nb (ufl Sb nb)
  dis : ∀ g, va.ownBlock = some g → vb.ownBlock ≠ some g
section
variable {B : Nat} {W W' : World} {va vb : Value} {na nb : Nat} {Sa Sb : Nat → U}
theorem own_kept {v v' : Value} {n : Nat} {xs : List Value} (h : W.ownsRow B 40 2 v n xs) (hg : W.grownBy W' v'.ownBlock) (hd : ∀ g, v'.ownBlock = some g → v.ownBlock ≠ some g) : W'.ownsRow B 40 2 v n xs := by
  refine h.kept hg ?_
  rcases h.2 with ⟨rfl, _⟩ | ⟨g, cap, cur, rfl, _⟩
  · exact .inl rfl
  · exact .inr fun he => hd g he.symm rfl
theorem Two.alloc (h : Two B W va vb na nb Sa Sb) (o : Obj) : Two B (W.alloc o) va vb na nb Sa Sb := ⟨h.ra.alloc o, h.rb.alloc o, h.dis⟩
theorem Two.drew (h : Two B W va vb na nb Sa Sb) : Two B W.drew va vb na nb Sa Sb := ⟨h.ra.kept (gb_drew (World.grownBy.refl _ _)) (Classical.em _), h.rb.kept (gb_drew (World.grownBy.refl _ _)) (Classical.em _), h.dis⟩
theorem Two.below (h : Two B W va vb na nb Sa Sb) (hb : Below W.heap.size W W') : Two B W' va vb na nb Sa Sb := ⟨h.ra.kept (gb_below hb none) (Classical.em _), h.rb.kept (gb_below hb none) (Classical.em _), h.dis⟩
theorem Two.moreA (h : Two B W va vb na nb Sa Sb) {v' : Value} {u : U} (r : W'.ownsRow B 40 2 v' (na + 1) (ufl Sa na ++ [.string u.1, .int .i64 u.2])) (hg : W.grownBy W' va.ownBlock) (hat : v'.ownBlock = va.ownBlock ∨ v'.ownBlock = some W.heap.size) :
    Two B W' v' vb (na + 1) nb (snoc Sa na u) Sb := by
  refine ⟨by rw [← ufl_snoc]; exact r, own_kept h.rb hg h.dis, fun g e1 e2 => ?_⟩
  rcases hat with h5 | h5
  · exact h.dis g (h5 ▸ e1) e2
  · rw [h5] at e1
    injection e1 with e1
    have := (h.rb.lt _ e2).2
    omega
theorem Two.moreB (h : Two B W va vb na nb Sa Sb) {v' : Value} {u : U} (r : W'.ownsRow B 40 2 v' (nb + 1) (ufl Sb nb ++ [.string u.1, .int .i64 u.2])) (hg : W.grownBy W' vb.ownBlock) (hat : v'.ownBlock = vb.ownBlock ∨ v'.ownBlock = some W.heap.size) :
    Two B W' va v' na (nb + 1) Sa (snoc Sb nb u) := by
  refine ⟨own_kept h.ra hg (fun g e1 e2 => h.dis g e2 e1), by rw [← ufl_snoc]; exact r, fun g e1 e2 => ?_⟩
  rcases hat with h5 | h5
  · exact h.dis g e1 (h5 ▸ e2)
  · rw [h5] at e2
    injection e2 with e2
    have := (h.ra.lt _ e1).2
    omega
/-- a block of the call's own that was made later -/
theorem Two.fresh (h : Two B W va vb na nb Sa Sb) : some W.heap.size ≠ va.ownBlock ∧ some W.heap.size ≠ vb.ownBlock :=
  ⟨fun e => absurd (h.ra.lt _ e.symm).2 (Nat.lt_irrefl _), fun e => absurd (h.rb.lt _ e.symm).2 (Nat.lt_irrefl _)⟩
end
theorem own_base {W : World} {B B' : Nat} {v : Value} {n : Nat} {xs : List Value} (h : W.ownsRow B' 40 2 v n xs) (hB : B ≤ B') : W.ownsRow B 40 2 v n xs := by
  refine ⟨h.1, ?_⟩
  rcases h.2 with h2 | ⟨g, cap, cur, h1, h3, h4⟩
  · exact .inl h2
  · exact .inr ⟨g, cap, cur, h1, Nat.le_trans hB h3, h4⟩
theorem Two.start {w1 w2 w3 : World} {va vb : Value} {n : Nat} {S T : Nat → U} {o : Obj} (hr : w2.ownsRow w1.heap.size 40 2 va (0 + n) ([] ++ ufl S n)) (hs : w1.heap.size ≤ w2.heap.size) {ve : Value} (he : ve.ownBlock = some w2.heap.size)
    (r3 : w3.ownsRow w2.heap.size 40 2 vb (0 + n) ([] ++ ufl T n)) (g3 : (w2.alloc o).grownBy w3 ve.ownBlock) : Two w1.heap.size w3 va vb n n S T := by
  rw [Nat.zero_add, List.nil_append] at hr r3
  refine ⟨own_kept (hr.alloc o) g3 (fun g e1 e2 => ?_), own_base r3 hs, fun g e1 e2 => ?_⟩
  · rw [he] at e1
    injection e1 with e1
    have := (hr.lt _ e2).2
    omega
  · have h1 := (hr.lt _ e1).2
    have h2 := (r3.lt _ e2).1
    omega
theorem dis_false {S : Nat → U} {n : Nat} (h : ∃ i j, j < i ∧ i < n ∧ (S j).1 = (S i).1) : dis S n = false := by
  obtain ⟨i, j, hj, hi, e⟩ := h
  have mono : ∀ n, i < n → dis S n = false := fun n => by
    induction n with
    | zero => intro h; omega
    | succ n ih =>
      intro h
      rw [dis]
      by_cases hn : i = n
      · subst hn
        have hs : ∀ k, j < k → seen S (S i).1 k = true := fun k => by
          induction k with
          | zero => intro h; omega
          | succ k ihk =>
            intro h
            rw [seen]
            by_cases hk : j = k
            · subst hk; simp [e]
            · rw [ihk (by omega)]; rfl
        rw [hs i hj]
        simp
      · rw [ih (by omega)]; rfl
  exact mono n hi
theorem chg_dup {S T : Nat → U} {n n2 : Nat} (h : ∃ i j, j < i ∧ i < n ∧ (S j).1 = (S i).1) : chg n n2 S T = false := by
  unfold chg
  rw [dis_false h]
  simp
theorem chg_len {S T : Nat → U} {n n2 : Nat} (h : n ≠ n2) : chg n n2 S T = false := by
  unfold chg
  simp [h]
theorem chg_many {S T : Nat → U} {n n2 : Nat} (h : 8 < n) : chg n n2 S T = false := by
  unfold chg
  simp [show ¬ n ≤ 8 by omega]
theorem chg_mod {S T : Nat → U} {n n2 : Nat} (h0 : 0 < n) (h : (S 0).1 ≠ (T 0).1) : chg n n2 S T = false := by
  unfold chg
  rw [eqm_bad h0 h]
  simp
end Go.Proofs.Ytcjbjhkmnfegnaa
