/-
  The contract of Filter at a contract that is one: where Pass rejects no frame, the indices of the frames that pass; else nothing and ErrArg.
-/
import Derived.Test.YtknfhbhaencdjaaCon6
import Derived.Test.YtknfhbhaencdjaaOpn
namespace Go.Proofs.Ytknfhbhaencdjaa
open Go.RowKit Go.Shelf
attribute [local go_sem] Oper.semAt_some

theorem passed_any (pb : Nat) (A : Option Addr) (m c : Nat) (w : World) :
    Calls Try.prog 26 #[.pointer (some ⟨pb, 0, none⟩), .slice A m c] w fun e w' => e = .returned (.func (.func 27) #[] #[.pointer (some ⟨w.heap.size + 1, 0, none⟩), .pointer (some ⟨w.heap.size, 0, none⟩)]) ∧
      (w.alloc (.cells #[.pointer (some ⟨pb, 0, none⟩)] 30)).alloc (.cells #[.slice A m c] 33) = w' := by
  go_enter Try.func26, Try.ntmps26
  go_wp2
  go_ret
  exact ⟨rfl, rfl⟩

def ints (l : List Nat) : List Value := l.map fun (i : Nat) => Value.int .i64 (i : Int)
/-- what Filter leaves -/
def FPost (B S J : Int) (t s : Nat → Int) (m : Nat) (w : World) (e : Ending) (w' : World) : Prop :=
  Below w.heap.size w w' ∧
  (((∀ i, i < m → Pol.bad t s i = false) ∧ ∃ v, e = .returned (.tuple #[v, .int .i64 0]) ∧ w'.ownsRow w.heap.size 3 1 v (Pol.idx B S J t s m).length (ints (Pol.idx B S J t s m))) ∨
   ((∃ i, i < m ∧ Pol.bad t s i = true) ∧ e = .returned (.tuple #[.slice none 0 0, .int .i64 2])))

def IF (w : World) (ob r0 r1 pb fb qb : Nat) (pre : List (Nat × Int)) (W : World) : Prop :=
  (∀ x ∈ pre, x.2 = 0) ∧ (∃ v, Blk W ob 27 #[v] ∧ W.ownsRow w.heap.size 3 1 v pre.length (pre.map fun x => .int .i64 (x.1 : Int))) ∧ Blk W r0 27 #[.slice none 0 0] ∧ Blk W r1 22 #[.int .i64 0] ∧
  (∃ cs, Blk W pb 51 cs) ∧ (∃ cs, Blk W fb 33 cs) ∧ (∃ cs, Blk W qb 30 cs) ∧ Below w.heap.size w W
def IxF (w : World) (r0 r1 pb : Nat) (c : Code) (pre : List (Nat × Int)) (W : World) : Prop :=
  c = .ret ∧ (∃ p i e, pre = p ++ [(i, e)] ∧ e ≠ 0 ∧ Blk W r0 27 #[.slice none 0 0] ∧ Blk W r1 22 #[.int .i64 e]) ∧ (∃ cs, Blk W pb 51 cs) ∧ Below w.heap.size w W

theorem Blk.noncell {W W' : World} {row : Option Nat} {g : Nat} {t : TypeId} {cs : Array Value} (h : Blk W g t cs) (hg : W.grownBy W' row) (hr : ∀ r, row = some r → ∃ o : Obj, W.heap[r]? = some o ∧ o.isCells = false) : Blk W' g t cs :=
  h.grown hg (fun e => by obtain ⟨o, ho, hc⟩ := hr g e.symm; unfold Blk at h; rw [h] at ho; cases ho; cases hc)
theorem own_noncell {W W' : World} {row : Option Nat} {base : Nat} {e : TypeId} {size n : Nat} {v : Value} {xs : List Value} (h : W.ownsRow base e size v n xs) (hg : W.grownBy W' row) (hr : ∀ r, row = some r → ∃ o : Obj, W.heap[r]? = some o ∧ o.isCells = false) : W'.ownsRow base e size v n xs := by
  refine h.kept hg ?_
  rcases h.2 with ⟨rfl, _⟩ | ⟨g, cap, cur, rfl, _, hh, _⟩
  · exact .inl rfl
  · refine .inr (fun he => ?_)
    obtain ⟨o, ho, hc⟩ := hr g he.symm
    rw [hh] at ho; cases ho; cases hc

theorem IF_own {w : World} {ob r0 r1 pb fb qb Bn : Nat} (hB : w.heap.size ≤ Bn) : OwnFrom Bn (IF w ob r0 r1 pb fb qb) := by
  rintro s W W' row ⟨h1, ⟨v, h2, h3⟩, h4, h5, ⟨c1, h6⟩, ⟨c2, h7⟩, ⟨c3, h8⟩, h9⟩ hg hr
  have hr' : ∀ r, row = some r → ∃ o : Obj, W.heap[r]? = some o ∧ o.isCells = false := fun r e => (hr r e).2
  exact ⟨h1, ⟨v, h2.noncell hg hr', own_noncell h3 hg hr'⟩, h4.noncell hg hr', h5.noncell hg hr', ⟨c1, h6.noncell hg hr'⟩, ⟨c2, h7.noncell hg hr'⟩, ⟨c3, h8.noncell hg hr'⟩, h9.grown hg h9.size (fun k e => Nat.le_trans hB (hr k e).1)⟩
theorem IxF_own {w : World} {r0 r1 pb Bn : Nat} (hB : w.heap.size ≤ Bn) (c : Code) : OwnFrom Bn (IxF w r0 r1 pb c) := by
  rintro s W W' row ⟨h1, ⟨p, i, e, h2, h3, h4, h5⟩, ⟨cs, h7⟩, h9⟩ hg hr
  have hr' : ∀ r, row = some r → ∃ o : Obj, W.heap[r]? = some o ∧ o.isCells = false := fun r e => (hr r e).2
  exact ⟨h1, ⟨p, i, e, h2, h3, h4.noncell hg hr', h5.noncell hg hr'⟩, ⟨cs, h7.noncell hg hr'⟩, h9.grown hg h9.size (fun k e => Nat.le_trans hB (hr k e).1)⟩
theorem IF_R {w : World} {ob r0 r1 pb fb qb : Nat} (hp : w.heap.size ≤ pb) (s : List (Nat × Int)) (A B : World) (h : IF w ob r0 r1 pb fb qb s A) (hr : RF pb A B) : IF w ob r0 r1 pb fb qb s B := by
  obtain ⟨h1, ⟨v, h2, h3⟩, h4, h5, ⟨c1, h6⟩, ⟨c2, h7⟩, ⟨c3, h8⟩, h9⟩ := h
  obtain ⟨hg, cs, hb⟩ := hr
  have ne : ∀ {g t : Nat} {cs : Array Value}, Blk A g t cs → t ≠ 51 → some g ≠ some pb := fun h ht e => h.ne_ h6 ht (by injection e)
  exact ⟨h1, ⟨v, h2.grown hg (ne h2 (by decide)), h3.kept hg (.inr (own_ne h3 h6 (by decide)))⟩, h4.grown hg (ne h4 (by decide)), h5.grown hg (ne h5 (by decide)), ⟨cs, hb⟩, ⟨c2, h7.grown hg (ne h7 (by decide))⟩, ⟨c3, h8.grown hg (ne h8 (by decide))⟩,
    h9.grown hg h9.size (fun k e => by cases e; exact hp)⟩

theorem IxF_R {w : World} {r0 r1 pb : Nat} (hp : w.heap.size ≤ pb) (c : Code) (s : List (Nat × Int)) (A B : World) (h : IxF w r0 r1 pb c s A) (hr : RF pb A B) : IxF w r0 r1 pb c s B := by
  obtain ⟨h1, ⟨p, i, e, h2, h3, h4, h5⟩, ⟨cs, h7⟩, h9⟩ := h
  obtain ⟨hg, cs', hb⟩ := hr
  have ne : ∀ {g t : Nat} {cs : Array Value}, Blk A g t cs → t ≠ 51 → some g ≠ some pb := fun h ht e => h.ne_ h7 ht (by injection e)
  exact ⟨h1, ⟨p, i, e, h2, h3, h4.grown hg (ne h4 (by decide)), h5.grown hg (ne h5 (by decide))⟩, ⟨cs', hb⟩, h9.grown hg h9.size (fun k e => by cases e; exact hp)⟩

theorem body_app {w W W1 : World} {n1 pb fb qb g' cap' : Nat} {pre : List (Nat × Int)} {i : Nat} {v : Value} {c1 c2 c3 : Array Value} (hn : w.heap.size ≤ n1) (h1 : ∀ x ∈ pre, x.2 = 0) (h2 : Blk W n1 27 #[v]) (h3 : W.ownsRow w.heap.size 3 1 v pre.length (pre.map fun x => .int .i64 (x.1 : Int)))
    (h4 : Blk W w.heap.size 27 #[.slice none 0 0]) (h5 : Blk W (w.heap.size + 1) 22 #[.int .i64 0]) (h6 : Blk W pb 51 c1) (h7 : Blk W fb 33 c2) (h8 : Blk W qb 30 c3) (h9 : Below w.heap.size w W) (y2 : Blk W1 n1 27 #[v])
    (hown : W1.ownsRow w.heap.size 3 1 (.slice (some ⟨g', 0, none⟩) (pre.length + 1) cap') (pre.length + 1) ((pre.map fun x => .int .i64 (x.1 : Int)) ++ [.int .i64 (i : Int)])) (hgrow : (W.alloc (.cells #[.int .i64 (i : Int)] 3)).grownBy W1 v.ownBlock) (hr0 : w.heap.size ≠ n1) (hr1 : w.heap.size + 1 ≠ n1) :
    KeepsOthers W (W1.setCell ⟨n1, 0, none⟩ (.slice (some ⟨g', 0, none⟩) (pre.length + 1) cap')) ∧ KpF w.heap.size pb fb qb W (W1.setCell ⟨n1, 0, none⟩ (.slice (some ⟨g', 0, none⟩) (pre.length + 1) cap')) ∧
      IF w n1 w.heap.size (w.heap.size + 1) pb fb qb (pre ++ [(i, 0)]) (W1.setCell ⟨n1, 0, none⟩ (.slice (some ⟨g', 0, none⟩) (pre.length + 1) cap')) := by
  have hlt := h3.lt
  have hg := (World.grownBy_alloc W (.cells #[.int .i64 (i : Int)] 3) v.ownBlock).trans hgrow
  have far : ∀ {g t : Nat} {cs : Array Value}, Blk W g t cs → t ≠ 3 → g ≠ n1 → Blk (W1.setCell ⟨n1, 0, none⟩ (.slice (some ⟨g', 0, none⟩) (pre.length + 1) cap')) g t cs := fun h ht hn =>
    (h.grown hg (Ne.symm (own_ne h3 h (Ne.symm ht)))).far (p := ⟨n1, 0, none⟩) hn _
  have n6 : pb ≠ n1 := h6.ne_ h2 (by decide)
  have n7 : fb ≠ n1 := h7.ne_ h2 (by decide)
  have n8 : qb ≠ n1 := h8.ne_ h2 (by decide)
  have hb : Below w.heap.size w W1 := h9.grown hg h9.size (fun k e => (hlt k e).1)
  refine ⟨?_, ⟨by simpa using hg.size, fun k hk => ?_⟩, ?_⟩
  · refine (KeepsOthers.of_grownBy hg (fun j o e ho => ?_)).trans (KeepsOthers.setCell _ _ _)
    rcases h3.2 with ⟨rfl, _⟩ | ⟨g2, cap2, cur, rfl, _, hh, _⟩
    · simp [Value.ownBlock] at e
    · simp [Value.ownBlock] at e
      subst e
      rw [hh] at ho; cases ho; rfl
  · rcases hk with hk | rfl | rfl | rfl
    · refine (heap_setCell_other _ _ k _ (by show k ≠ n1; omega)).trans (hg.block k (Nat.lt_of_lt_of_le hk h9.size) (fun e => ?_))
      have := (hlt k e.symm).1
      omega
    · exact (far h6 (by decide) n6).trans h6.symm
    · exact (far h7 (by decide) n7).trans h7.symm
    · exact (far h8 (by decide) n8).trans h8.symm
  · refine ⟨fun x hx => ?_, ⟨_, y2.put 0 _, ?_⟩, far h4 (by decide) hr0, far h5 (by decide) hr1, ⟨_, far h6 (by decide) n6⟩, ⟨_, far h7 (by decide) n7⟩, ⟨_, far h8 (by decide) n8⟩, hb.setCell (p := ⟨n1, 0, none⟩) hn _⟩
    · rcases List.mem_append.1 hx with h | h
      · exact h1 x h
      · simp at h; subst h; rfl
    · rw [List.length_append, List.map_append]
      exact ownsRow_setCell_other hown (own_ne hown y2 (by decide)) _

theorem body_err {w W : World} {pb : Nat} {pre : List (Nat × Int)} {i : Nat} {e : Int} {c1 : Array Value} (h4 : Blk W w.heap.size 27 #[.slice none 0 0]) (h5 : Blk W (w.heap.size + 1) 22 #[.int .i64 0]) (h6 : Blk W pb 51 c1) (h9 : Below w.heap.size w W) (he : ¬ e = 0) :
    KeepsOthers W ((W.setCell ⟨w.heap.size, 0, none⟩ (.slice none 0 0)).setCell ⟨w.heap.size + 1, 0, none⟩ (.int .i64 e)) ∧
      IxF w w.heap.size (w.heap.size + 1) pb .ret (pre ++ [(i, e)]) ((W.setCell ⟨w.heap.size, 0, none⟩ (.slice none 0 0)).setCell ⟨w.heap.size + 1, 0, none⟩ (.int .i64 e)) := by
  have n0 : pb ≠ w.heap.size := h6.ne_ h4 (by decide)
  have n1 : pb ≠ w.heap.size + 1 := h6.ne_ h5 (by decide)
  refine ⟨(KeepsOthers.setCell _ _ _).trans (KeepsOthers.setCell _ _ _), rfl, ⟨pre, i, e, rfl, he, (h4.put 0 _).far (p := ⟨w.heap.size + 1, 0, none⟩) (by show w.heap.size ≠ w.heap.size + 1; omega) _, (h5.far (p := ⟨w.heap.size, 0, none⟩) (by show w.heap.size + 1 ≠ w.heap.size; omega) _).put 0 _⟩,
    ⟨_, (h6.far (p := ⟨w.heap.size, 0, none⟩) n0 _).far (p := ⟨w.heap.size + 1, 0, none⟩) n1 _⟩, (h9.setCell (p := ⟨w.heap.size, 0, none⟩) (Nat.le_refl _) _).setCell (p := ⟨w.heap.size + 1, 0, none⟩) (by show w.heap.size ≤ w.heap.size + 1; omega) _⟩

theorem SF_done {B S J : Int} {t s : Nat → Int} {m : Nat} {xs : List (Nat × Int)} (h : SF B S J t s m xs) (h1 : ∀ x ∈ xs, x.2 = 0) : xs = ems B S J t s m ∧ ∀ i, i < m → Pol.bad t s i = false := by
  rcases h with h | ⟨k, _, _, _, rfl⟩
  · exact h
  · have := h1 (k, 2) (by simp)
    cases this
theorem ems_zero {B S J : Int} {t s : Nat → Int} {k : Nat} {x : Nat × Int} (h : x ∈ ems B S J t s k) : x.2 = 0 := by
  unfold ems at h
  obtain ⟨a, _, rfl⟩ := List.mem_map.1 h
  rfl
theorem SpF_stop {B S J : Int} {t s : Nat → Int} {m : Nat} {pre p : List (Nat × Int)} {i : Nat} {e : Int} (h : SpF B S J t s m pre) (hp : pre = p ++ [(i, e)]) (he : e ≠ 0) : e = 2 ∧ ∃ i, i < m ∧ Pol.bad t s i = true := by
  obtain ⟨k, hk, _, ⟨hb, rfl⟩ | ⟨_, rfl⟩⟩ := h
  · have := (List.append_inj' hp rfl).2
    simp at this
    exact ⟨this.2.symm, k, hk, hb⟩
  · have := (List.append_inj' hp rfl).2
    simp at this
    exact absurd this.2.symm he

theorem own_slice {W : World} {base : Nat} {e : TypeId} {size n : Nat} {v : Value} {xs : List Value} (h : W.ownsRow base e size v n xs) : ∃ A m c, v = .slice A m c := by
  rcases h.2 with ⟨rfl, _⟩ | ⟨g, cap, cur, rfl, _⟩
  · exact ⟨_, _, _, rfl⟩
  · exact ⟨_, _, _, rfl⟩
theorem fin_ok {B S J : Int} {t s : Nat → Int} {m : Nat} {w W W1 : World} {v : Value} (hnb : ∀ i, i < m → Pol.bad t s i = false)
    (h3 : W.ownsRow w.heap.size 3 1 v (ems B S J t s m).length ((ems B S J t s m).map fun x => .int .i64 (x.1 : Int))) (h4 : Blk W w.heap.size 27 #[.slice none 0 0]) (h5 : Blk W (w.heap.size + 1) 22 #[.int .i64 0]) (h9 : Below w.heap.size w W)
    (hW : W1 = (W.setCell ⟨w.heap.size, 0, none⟩ v).setCell ⟨w.heap.size + 1, 0, none⟩ (.int .i64 0)) :
    W1.cell? ⟨w.heap.size, 0, none⟩ = some v ∧ W1.cell? ⟨w.heap.size + 1, 0, none⟩ = some (.int .i64 0) ∧ KeepsOthers W W1 ∧ W1.heap.size = W.heap.size ∧ FPost B S J t s m w (.returned (.tuple #[v, .int .i64 0])) W1 := by
  subst hW
  have hv : (W.setCell ⟨w.heap.size, 0, none⟩ v).cell? ⟨w.heap.size, 0, none⟩ = some v := (h4.put 0 v).cell 0
  refine ⟨(Blk.cell ((h4.put 0 v).far (p := ⟨w.heap.size + 1, 0, none⟩) (by show w.heap.size ≠ w.heap.size + 1; omega) _) 0), ((h5.far (p := ⟨w.heap.size, 0, none⟩) (by show w.heap.size + 1 ≠ w.heap.size; omega) _).put 0 _).cell 0, (KeepsOthers.setCell _ _ _).trans (KeepsOthers.setCell _ _ _), by simp, ?_, ?_⟩
  · exact (h9.setCell (p := ⟨w.heap.size, 0, none⟩) (Nat.le_refl _) _).setCell (p := ⟨w.heap.size + 1, 0, none⟩) (by show w.heap.size ≤ w.heap.size + 1; omega) _
  · refine .inl ⟨hnb, v, rfl, ?_⟩
    have h3' : W.ownsRow w.heap.size 3 1 v (Pol.idx B S J t s m).length (ints (Pol.idx B S J t s m)) := by
      simpa [ems, ints, List.map_map, Function.comp_def] using h3
    exact ownsRow_setCell_other (ownsRow_setCell_other h3' (own_ne h3' h4 (by decide)) _) (own_ne h3' h5 (by decide)) _

theorem fpost_put {B S J : Int} {t s : Nat → Int} {m D : Nat} {w W : World} {e : Ending} {o' : Obj} (h : FPost B S J t s m w e W) (hK : W.heap[D]? = some (.deferred (some []))) (hD : w.heap.size ≤ D) : FPost B S J t s m w e (W.putObj D o') := by
  obtain ⟨hb, h⟩ := h
  refine ⟨hb.trans (belowK_b (w := w) (Nat.le_refl _) W D _ _ hD hK rfl rfl), ?_⟩
  rcases h with ⟨h1, v, h2, h3⟩ | h
  · exact .inl ⟨h1, v, h2, own_noncell h3 (grownBy_putObj' W D o') (fun r e => by cases e; exact ⟨_, hK, rfl⟩)⟩
  · exact .inr h

set_option maxRecDepth 100000 in
set_option maxHeartbeats 8000000 in
theorem filter_ok (B S J : Int) (A : Option Addr) (m c : Nat) (t s : Nat → Int) (w : World) (hok : okC B S J = true) (hF : Flow w A m t s) :
    Calls Try.prog 20 #[.int .i64 B, .int .i64 S, .int .i64 J, .slice A m c] w (FPost B S J t s m w) := by
  refine (callsIn_wide (n := 5)).1 ?_
  obtain ⟨i0, hi, hz0, hz1, hz2⟩ := info_parts Try.info3'
  obtain ⟨hm, hfl⟩ := hF
  have HFl := Lib.hid hfl
  have hi' := Lib.hid hi
  have hz0' := Lib.hid hz0
  have hz1' := Lib.hid hz1
  have hz2' := Lib.hid hz2
  clear hi hz0 hz1 hz2 hfl
  refine callsIn_of_wp_marks Try.func20 rfl trivial ?_ rfl
  simp only [Try.ntmps20, List.size_toArray, List.length_cons, List.length_nil, Nat.reduceAdd, Nat.reduceSub, Array.replicate_succ, Array.replicate_zero, List.push_toArray, List.append_toArray, List.nil_append, List.cons_append]
  gi_wp2_with fail
  refine ⟨trivial, ?_⟩
  refine (callsIn_wide.2 (new_ok _ _ _ _ hok)).mono ?_
  rintro e w1 ⟨pb, rfl, hpb, hB1, hac⟩
  have e0 : Blk w1 w.heap.size 27 #[.slice none 0 0] := ((Blk.made w 27 #[.slice none 0 0]).alloc _).below hB1 (by simp; omega)
  have e1 : Blk w1 (w.heap.size + 1) 22 #[.int .i64 0] := (Blk.made_at (g := w.heap.size + 1) (w.alloc (.cells #[.slice none 0 0] 27)) 22 #[.int .i64 0] (by simp)).below hB1 (by simp)
  have k1 : Below w.heap.size w w1 := (((Below.refl _ w).alloc (Nat.le_refl _) (.cells #[.slice none 0 0] 27)).alloc (by simp) (.cells #[.int .i64 0] 22)).trans (hB1.mono (by simp; omega))
  gi_wp2_with fail
  refine ⟨trivial, ?_⟩
  refine (callsIn_wide.2 (passed_any _ _ _ _ _)).mono ?_
  rintro e w' ⟨rfl, rfl⟩
  obtain ⟨W2, hW2⟩ : ∃ W2, ((w1.alloc (.cells #[.slice none 0 0] 27)).alloc (.cells #[.pointer (some ⟨pb, 0, none⟩)] 30)).alloc (.cells #[.slice A m c] 33) = W2 := ⟨_, rfl⟩
  have hsz2 : W2.heap.size = w1.heap.size + 1 + 1 + 1 := by rw [← hW2]; simp
  have hob : Blk W2 w1.heap.size 27 #[.slice none 0 0] := by rw [← hW2]; exact ((Blk.made w1 27 _).alloc _).alloc _
  have hqb : Blk W2 (w1.heap.size + 1) 30 #[.pointer (some ⟨pb, 0, none⟩)] := by rw [← hW2]; exact (Blk.made_at _ _ _ (by simp)).alloc _
  have hfb : Blk W2 (w1.heap.size + 1 + 1) 33 #[.slice A m c] := by rw [← hW2]; exact Blk.made_at _ _ _ (by simp)
  have kW : Below w1.heap.size w1 W2 := by rw [← hW2]; exact (((Below.refl _ _).alloc (Nat.le_refl _) _).alloc (by simp) _).alloc (by simp; omega) _
  have k2 : Below w.heap.size w W2 := k1.trans (kW.mono k1.size)
  have hac2 : Acc W2 pb B S J (S * (B + J)) 0 := hac.below kW hac.lt
  have he0 : Blk W2 w.heap.size 27 #[.slice none 0 0] := e0.below kW e0.lt
  have he1 : Blk W2 (w.heap.size + 1) 22 #[.int .i64 0] := e1.below kW e1.lt
  have hpw : w.heap.size ≤ pb := by simp at hpb; omega
  have HW2 := Lib.hid hW2
  have HS2 := Lib.hid hsz2
  gi_wp2_with fail
  have hob1 := hob.lt
  have k0 : w.heap.size ≤ w1.heap.size := k1.size
  have hfseq : SeqR Fence.wide 4 Try.prog 27 #[.pointer (some ⟨w1.heap.size + 1 + 1, 0, none⟩), .pointer (some ⟨w1.heap.size + 1, 0, none⟩)] encs (KpF w.heap.size pb (w1.heap.size + 1 + 1) (w1.heap.size + 1)) (RF pb) (SF B S J t s m) (SpF B S J t s m) (m + 1) W2 :=
    fun l J0 Jx W hW hJ _ hY h0 => passed1 4 l w.heap.size pb (w1.heap.size + 1 + 1) (w1.heap.size + 1) B S J A m c t s hok J0 Jx hJ W (hac2.below hW hac2.lt) (hfb.below hW hfb.lt) (hqb.below hW hqb.lt) hm
      (fun h => by
        obtain ⟨g, hA, hg, hc⟩ := HFl.out h
        have hb := (k2.trans (hW.mono k2.size))
        exact ⟨g, hA, hg, fun k hk => ⟨(hb.cell (p := ⟨g, k * 2, none⟩) hg).trans (hc k hk).1, (hb.cell (p := ⟨g, k * 2 + 1, none⟩) hg).trans (hc k hk).2⟩⟩)
      (by omega) hpw (Nat.le_trans k2.size hW.size) hY h0
  refine wpIn_rangeFunc_R rfl (by omega) (gf := 27) (lb := #[.pointer (some ⟨w1.heap.size + 1 + 1, 0, none⟩), .pointer (some ⟨w1.heap.size + 1, 0, none⟩)]) rfl trivial (enters_of Try.func27 (by kernel_rfl) rfl)
    hfseq (fun X Y h l h1 h2 => h.1.block l h2 (fun e => by injection e with e; have := hac2.lt; omega))
    (fun h k => ⟨Nat.le_trans h.1 k.1, fun j hj => (k.2 j hj).trans (h.2 j hj)⟩)
    (fun W l o o' hl ho _ _ => ⟨by simp, fun j hj => World.putObj_heap_other (by
      have q1 := hac2.lt
      have q2 := k2.size
      rw [HS2.out] at *
      rcases hj with hj | rfl | rfl | rfl <;> omega)⟩) (Below.refl _ _) (fun _ => rfl)
    (IF w w1.heap.size w.heap.size (w.heap.size + 1) pb (w1.heap.size + 1 + 1) (w1.heap.size + 1)) (IxF w w.heap.size (w.heap.size + 1) pb) (IF_own k2.size) (IxF_own k2.size) (IF_R hpw) (IxF_R hpw)
    ⟨by simp, ⟨_, hob, World.ownsRow_nil _ _ _ _⟩, he0, he1, ⟨_, hac2⟩, ⟨_, hfb⟩, ⟨_, hqb⟩, k2⟩
    (fun x => { tmps := #[.int .i64 B, .int .i64 S, .int .i64 J, .slice A m c, undef, undef, undef, undef, .pointer (some ⟨w.heap.size, 0, none⟩), .pointer (some ⟨w.heap.size + 1, 0, none⟩), .pointer (some ⟨pb, 0, none⟩), .int .i64 0, .pointer (some ⟨w1.heap.size, 0, none⟩), .int .i64 (x.1 : Int), .int .i64 x.2,
      .tuple #[.pointer (some ⟨pb, 0, none⟩), .int .i64 0], .int .i64 B, .int .i64 S, .int .i64 J, .tuple #[.pointer (some ⟨pb, 0, none⟩), .int .i64 0], .pointer (some ⟨pb, 0, none⟩), .int .i64 0, .int .i64 0, .bool false, undef, .pointer (some ⟨pb, 0, none⟩), .slice A m c,
      .func (.func 27) #[] #[.pointer (some ⟨w1.heap.size + 1 + 1, 0, none⟩), .pointer (some ⟨w1.heap.size + 1, 0, none⟩)], .int .i64 (x.1 : Int), .int .i64 x.2, undef, undef, undef, undef, undef, undef, undef, undef], defers := [] }) ?assign ?body ?done ?stop
  case assign =>
    intro l x W K hK
    gi_wp2
    exact hK
  case body =>
    rintro l pre ⟨i, e⟩ W ⟨h1, ⟨v, h2, h3⟩, h4, h5, ⟨c1, h6⟩, ⟨c2, h7⟩, ⟨c3, h8⟩, h9⟩ hlen
    have z0 : W.cell? ⟨w1.heap.size, 0, none⟩ = some v := h2.cell 0
    have z1 : W.frozen? ⟨w1.heap.size, 0, none⟩ = false := h2.free 0
    have z2 : W.cell? ⟨w.heap.size, 0, none⟩ = some (.slice none 0 0) := h4.cell 0
    have z3 : W.frozen? ⟨w.heap.size, 0, none⟩ = false := h4.free 0
    have z4 : W.cell? ⟨w.heap.size + 1, 0, none⟩ = some (.int .i64 0) := h5.cell 0
    have z5 : W.frozen? ⟨w.heap.size + 1, 0, none⟩ = false := h5.free 0
    by_cases he : e = 0
    · subst he
      have H1 := Lib.hid h1
      clear h1
      gi_wp2_with (gi_at_builtin; refine wpListIn_append_own _ rfl _ _ 27 rfl w.heap.size 3 i0 (.int .i64 0) 1 8 Try.underlying27 hi'.out hz0'.out hz1'.out hz2'.out rfl (by decide) _ _ _ rfl (h3.alloc _) ⟨W.heap.size, 0, none⟩ 1 1 [.int .i64 (i : Int)] rfl rfl (cell_one_new _ _ _) (by simp [Value.oneCell']) (by unfold maxLen; omega) (by omega) (by have := h9.size; simp; omega) ?_; intro v' W1 hown' hgrow _; obtain ⟨g', cap', rfl⟩ := ownsRow_succ hown'; have y2 : Blk W1 w1.heap.size 27 #[v] := (h2.alloc _).grown hgrow (Ne.symm (own_ne h3 h2 (by decide))); have y3 : W1.cell? ⟨w1.heap.size, 0, none⟩ = some v := y2.cell 0; have y4 : W1.frozen? ⟨w1.heap.size, 0, none⟩ = false := y2.free 0)
      exact body_app k0 H1.out h2 h3 h4 h5 h6 h7 h8 h9 y2 hown' hgrow (Nat.ne_of_lt e0.lt) (Nat.ne_of_lt e1.lt)
    · have he' : (e == 0) = false := by simpa using he
      have HE := Lib.hid he
      clear he
      gi_wp2
      exact body_err h4 h5 h6 h9 HE.out
  case done =>
    rintro D xs W hD hS ⟨h1, ⟨v, h2, h3⟩, h4, h5, ⟨c1, h6⟩, ⟨c2, h7⟩, ⟨c3, h8⟩, h9⟩ hK
    rw [HS2.out] at hD
    obtain ⟨A1, m1, c1', rfl⟩ : ∃ A1 m1 c1', v = .slice A1 m1 c1' := own_slice h3
    have z0 : W.cell? ⟨w1.heap.size, 0, none⟩ = some (.slice A1 m1 c1') := h2.cell 0
    have z1 : W.frozen? ⟨w1.heap.size, 0, none⟩ = false := h2.free 0
    have z2 : W.cell? ⟨w.heap.size, 0, none⟩ = some (.slice none 0 0) := h4.cell 0
    have z3 : W.frozen? ⟨w.heap.size, 0, none⟩ = false := h4.free 0
    have z4 : W.cell? ⟨w.heap.size + 1, 0, none⟩ = some (.int .i64 0) := h5.cell 0
    have z5 : W.frozen? ⟨w.heap.size + 1, 0, none⟩ = false := h5.free 0
    obtain ⟨rfl, hnb⟩ := SF_done hS h1
    have H1 := Lib.hid h1
    have HB := Lib.hid hnb
    clear h1 hnb hS
    gi_wp2
    obtain ⟨W4, hW4⟩ : ∃ W4, (W.setCell ⟨w.heap.size, 0, none⟩ (.slice A1 m1 c1')).setCell ⟨w.heap.size + 1, 0, none⟩ (.int .i64 0) = W4 := ⟨_, rfl⟩
    obtain ⟨q1, q2, q3, _, q5⟩ := fin_ok (B := B) (S := S) (J := J) HB.out h3 h4 h5 h9 hW4.symm
    try simp only [hW4]
    have hK' := q3.same D _ hK rfl
    have hc1 := cell_kept q1 (grownBy_putObj' _ D (.deferred none)) (fun r e => by cases e; exact ⟨_, hK', rfl⟩)
    have hc2 := cell_kept q2 (grownBy_putObj' _ D (.deferred none)) (fun r e => by cases e; exact ⟨_, hK', rfl⟩)
    refine ⟨by simp, .inl ⟨_, _, rfl, run_takeDeferred hK', ?_⟩⟩
    refine ⟨.tuple #[.slice A1 m1 c1', .int .i64 0], ?_, ?_⟩
    · simp [results, Try.f20, go_sem, hc1, hc2]
    · exact fpost_put q5 hK' (by have := k2.size; rw [HS2.out] at this; omega)
  case stop =>
    rintro D c pre W hD hSp ⟨rfl, ⟨p, i, e, hp, he, h4, h5⟩, ⟨cs, h7⟩, h9⟩ hK
    rw [HS2.out] at hD
    obtain ⟨rfl, hbad⟩ := SpF_stop hSp hp he
    clear hSp hp he
    have HB := Lib.hid hbad
    clear hbad
    gi_wp2
    have hc1 := cell_kept (h4.cell 0) (grownBy_putObj' _ D (.deferred none)) (fun r e => by cases e; exact ⟨_, hK, rfl⟩)
    have hc2 := cell_kept (h5.cell 0) (grownBy_putObj' _ D (.deferred none)) (fun r e => by cases e; exact ⟨_, hK, rfl⟩)
    refine ⟨by simp, .inl ⟨_, _, rfl, run_takeDeferred hK, ?_⟩⟩
    refine ⟨.tuple #[.slice none 0 0, .int .i64 2], ?_, h9.trans (belowK_b (w := w) (Nat.le_refl _) W D _ _ (by omega) hK rfl rfl), .inr ⟨HB.out, rfl⟩⟩
    simp [results, Try.f20, go_sem, hc1, hc2]
end Go.Proofs.Ytknfhbhaencdjaa
