/-
  The contract of Order, where the two sets form a change. It takes that the modules' names are no longer than a string can be.
-/
import Derived.Test.YtcjbjhkmnfegnaaC8
import Derived.Test.YtcjbjhkmnfegnaaP2
namespace Go.Proofs.Ytcjbjhkmnfegnaa
open Go.RowKit Go.Shelf
attribute [local go_sem] Oper.semAt_some
/-- the same for a region that does not panic, whatever the post says of a panic -/
theorem region_SN {F : Fence} {n : Nat} {P : Program} {ops : Array Oper} {Q : Exit → Act → World → Prop} {id : Nat} {a : Act} {w : World} (S : World → Prop) (hm : P.follows .mixedOrders = true) (hS : S w.drew)
    (h : S w.drew → anyS F n P .any ops (NoPanic Q) S ops.size (Array.replicate ops.size false) a w.drew) : (Code.region id ops true).wpIn F n P Q a w :=
  wpIn_mono (region_S S hm hS h) NoPanic.imp
/-- what the loop over the steps keeps, where the marks are gathered downwards -/
def IO (w : World) (lb q t : Nat) (cs : Array Value) (ds : List Deferred) (f : Nat → Bool) (pre : List (Nat × Nat)) (W : World) : Prop :=
  Arr W lb (fun b => if b = t then f t || pre.any (fun x => f x.2) else f b) ∧ Blk W w.heap.size 56 cs ∧ Blk W q 3 #[.int .i64 (t : Int)] ∧ Below w.heap.size w W ∧ Marks w.heap.size ds W
theorem IO_own {w : World} {lb q t E : Nat} {cs : Array Value} {ds : List Deferred} {f : Nat → Bool} (hE : w.heap.size ≤ E) (hd : ∀ e ∈ ds, ∀ D, e.target = .collected D → D < E) : OwnFrom E (IO w lb q t cs ds f) := by
  rintro s X Y row ⟨h1, h2, h3, h4, h5⟩ hg hr
  have hr' : ∀ r, row = some r → ∃ o : Obj, X.heap[r]? = some o ∧ o.isCells = false := fun r e => (hr r e).2
  exact ⟨h1.noncell hg hr', h2.noncell hg hr', h3.noncell hg hr', h4.grown hg h4.size (fun k e => Nat.le_trans hE (hr k e).1), Marks.own (β := List (Nat × Nat)) hd s X Y row h5 hg hr⟩
theorem IO_R {w : World} {lb q t : Nat} {cs : Array Value} {ds : List Deferred} {f : Nat → Bool} (s : List (Nat × Nat)) (X Y : World) (h : IO w lb q t cs ds f s X) (hr : RI X Y) : IO w lb q t cs ds f s Y := by
  obtain ⟨h1, h2, h3, h4, h5⟩ := h
  exact ⟨h1.of_block (hr.block lb h1.1), h2.below hr h2.lt, h3.below hr h3.lt, h4.trans (hr.mono h4.size), h5.below hr⟩
theorem cell_far {W : World} {q lb t j : Nat} {v u : Value} (hne : q ≠ lb) (h : W.cell? ⟨q, j, none⟩ = some v) : (W.setCell ⟨lb, t, none⟩ u).cell? ⟨q, j, none⟩ = some v :=
  (World.cell?_of_block (a := ⟨q, j, none⟩) (heap_setCell_other W ⟨lb, t, none⟩ q u hne)).trans h
theorem fin20 {w : World} {lb q t y i g1 g2 : Nat} {cs : Array Value} {ds : List Deferred} {f : Nat → Bool} {pre : List (Nat × Nat)} {W : World} {v : Int} {a b : Bool} (ht : t < 256) (hw : w.heap.size < lb) (hq : lb < q) (hg1 : g1 ≠ lb) (hg2 : g2 ≠ lb)
    (h : IO w lb q t cs ds f pre W) (ha : (f t || pre.any (fun x => f x.2)) = a) (hb : f y = b) (hv : v = bv (a || b)) :
    KeepsOthers W (W.drew.setCell ⟨lb, t, none⟩ (.int .i64 v)) ∧ KpI w.heap.size g1 g2 W (W.drew.setCell ⟨lb, t, none⟩ (.int .i64 v)) ∧ IO w lb q t cs ds f (pre ++ [(i, y)]) (W.drew.setCell ⟨lb, t, none⟩ (.int .i64 v)) := by
  obtain ⟨h1, h2, h3, h4, h5⟩ := h
  have h1d : Arr W.drew lb (fun b => if b = t then f t || pre.any (fun x => f x.2) else f b) := h1.of_block rfl
  refine ⟨(KeepsOthers.drew W).trans (KeepsOthers.setCell _ _ _), ⟨by show W.heap.size ≤ (W.drew.setCell _ _).heap.size; simp, fun k hk => heap_setCell_other W.drew ⟨lb, t, none⟩ k _ (by show k ≠ lb; rcases hk with hk | hk | hk <;> omega)⟩, ?_, ?_, ?_, ?_, ?_⟩
  · subst hv
    refine (h1d.put t (a || b) ht).congr (fun b' _ => ?_)
    by_cases e : b' = t
    · subst e
      simp only [if_true, List.any_append, List.any_cons, List.any_nil, Bool.or_false]
      rw [← ha, ← hb, Bool.or_assoc]
    · simp [e]
  · exact Blk.far (w := W.drew) (p := ⟨lb, t, none⟩) h2 (show w.heap.size ≠ lb by omega) _
  · exact Blk.far (w := W.drew) (p := ⟨lb, t, none⟩) h3 (show q ≠ lb by omega) _
  · exact (Below.drew h4).setCell (p := ⟨lb, t, none⟩) (show w.heap.size ≤ lb by omega) _
  · exact h5.others ((KeepsOthers.drew W).trans (KeepsOthers.setCell _ _ _))
theorem arr_one {W : World} {g gg : Nat} (h : Blk W g 57 (Z57.setIfInBounds gg (.int .i64 1))) : Arr W g (fun b => decide (b = gg)) :=
  ⟨h.lt, fun i hi => ⟨by
    rw [h.cell]
    by_cases e : i = gg
    · subst e
      rw [Array.getElem?_setIfInBounds_self_of_lt (by rw [show Z57.size = 256 from by simp [Z57]]; exact hi)]
      simp [bv]
    · rw [Array.getElem?_setIfInBounds_ne (Ne.symm e)]
      simp [Z57, hi, bv, e], h.free i⟩⟩
theorem res_two {P : Program} {fn : Func} {a b : Tmp} {tmps : Array Value} {w : World} (h : fn.results = #[.tmp a, .tmp b]) :
    (results fn tmps).run P w = .ok (.tuple #[tmps.getD a undef, tmps.getD b undef]) w := by
  simp [results, h]

theorem NumsIn.spent {w w' : World} {A : Option Addr} {z : List Nat} {B : Nat} (h : NumsIn w A z) (hs : Spent B w w') : NumsIn w' A z := fun hz => by
  obtain ⟨b, hA, hlt, hc⟩ := h hz
  obtain ⟨o, hb, ho⟩ := cells_of_cell (hc 0 hz)
  replace hb : w.heap[b]? = some o := hb
  obtain ⟨c, e, fr, rfl⟩ : ∃ c e fr, o = .cells c e fr := by
    cases o <;> simp [Obj.isCells] at ho
    exact ⟨_, _, _, rfl⟩
  have he := hs.2 b c e fr hb
  exact ⟨b, hA, by rw [hb] at he; exact lt_of_block he, fun k hk => (World.cell?_of_block (a := ⟨b, k, none⟩) he).trans (hc k hk)⟩
theorem own_below {w w' : World} {base e size n : Nat} {v : Value} {xs : List Value} (h : w.ownsRow base e size v n xs) (hb : Below w.heap.size w w') : w'.ownsRow base e size v n xs := by
  refine ⟨h.1, h.2.imp id ?_⟩
  rintro ⟨g, cap, cur, h1, h2, h3, h4⟩
  exact ⟨g, cap, cur, h1, h2, (hb.block g (lt_of_block h3)).trans h3, h4⟩
theorem own_far {w : World} {base e size n : Nat} {v : Value} {xs : List Value} (h : w.ownsRow base e size v n xs) : ∀ j, v.ownBlock = some j → base ≤ j ∧ j < w.heap.size := by
  intro j hj
  rcases h.2 with ⟨rfl, _⟩ | ⟨g, cap, cur, rfl, h2, h3, _⟩
  · simp [Value.ownBlock] at hj
  · simp [Value.ownBlock] at hj
    subst hj
    exact ⟨h2, lt_of_block h3⟩
theorem own_cells {w : World} {base e size n : Nat} {v : Value} {xs : List Value} (h : w.ownsRow base e size v n xs) : ∀ j, v.ownBlock = some j → w.heap[j]? ≠ some (.deferred (some [])) := by
  intro j hj
  rcases h.2 with ⟨rfl, _⟩ | ⟨g, cap, cur, rfl, h2, h3, _⟩
  · simp [Value.ownBlock] at hj
  · simp [Value.ownBlock] at hj
    subst hj
    rw [h3]
    simp
theorem els_pre {m n : Nat} {Rw : Nat → R} {S T : Nat → U} {b k0 : Nat} (hst : stp m Rw n S T b k0 = true) : ∀ k, k0 < k → ∃ rest, elsS m Rw n S T b k = elsS m Rw n S T b k0 ++ (k0, up b k0) :: rest
  | k + 1, h => by
    rw [elsS]
    by_cases e : k0 = k
    · subst e
      rw [if_pos hst]
      exact ⟨[], rfl⟩
    · obtain ⟨rest, hr⟩ := els_pre hst k (by omega)
      rw [hr]
      exact ⟨_, by rw [List.append_assoc, List.cons_append]⟩
theorem nxt_none {m n : Nat} {Rw : Nat → R} {S T : Nat → U} {b : Nat} (h : ∀ x ∈ elsS m Rw n S T b n, lead m Rw n S T x.2 = false) : nxt m Rw n S T b = none := by
  unfold nxt
  rw [List.find?_eq_none.2 (fun x hx => by rw [h x hx]; simp)]
  rfl
theorem nxt_some {m n : Nat} {Rw : Nat → R} {S T : Nat → U} {b k0 : Nat} (hk : k0 < n) (hst : stp m Rw n S T b k0 = true) (h : ∀ x ∈ elsS m Rw n S T b k0, lead m Rw n S T x.2 = false) (hl : lead m Rw n S T (up b k0) = true) : nxt m Rw n S T b = some k0 := by
  obtain ⟨rest, hr⟩ := els_pre hst n hk
  unfold nxt
  rw [hr, List.find?_append, List.find?_eq_none.2 (fun x hx => by rw [h x hx]; simp)]
  simp [hl]
/-- what the loop over the next steps keeps, till one leads to the goal; and where one does -/
def IP (wr : World) (cs : Array Value) (b : Nat) (f : Nat → Bool) (pre : List (Nat × Nat)) (W : World) : Prop :=
  (∀ x ∈ pre, f x.2 = false) ∧ Below wr.heap.size wr W ∧ Blk W wr.heap.size 3 #[.int .i64 (-1)] ∧ Blk W (wr.heap.size + 1) 56 cs ∧ Blk W (wr.heap.size + 1 + 1) 3 #[.int .i64 (b : Int)]
def IQ (wr : World) (cs : Array Value) (b : Nat) (f : Nat → Bool) (c : Code) (pre : List (Nat × Nat)) (W : World) : Prop :=
  c = .exit 8 ∧ (∃ (p0 : List (Nat × Nat)) (i y : Nat), pre = p0 ++ [(i, y)] ∧ (∀ x ∈ p0, f x.2 = false) ∧ f y = true ∧ Blk W wr.heap.size 3 #[.int .i64 (i : Int)]) ∧ Below wr.heap.size wr W ∧ Blk W (wr.heap.size + 1) 56 cs ∧ Blk W (wr.heap.size + 1 + 1) 3 #[.int .i64 (b : Int)]
theorem IP_own {wr : World} {cs : Array Value} {b E : Nat} {f : Nat → Bool} (hE : wr.heap.size ≤ E) : OwnFrom E (IP wr cs b f) := by
  rintro s X Y row ⟨h1, h2, h3, h4, h5⟩ hg hr
  have hr' : ∀ r, row = some r → ∃ o : Obj, X.heap[r]? = some o ∧ o.isCells = false := fun r e => (hr r e).2
  exact ⟨h1, h2.grown hg h2.size (fun k e => Nat.le_trans hE (hr k e).1), h3.noncell hg hr', h4.noncell hg hr', h5.noncell hg hr'⟩
theorem IQ_own {wr : World} {cs : Array Value} {b E : Nat} {f : Nat → Bool} {c : Code} (hE : wr.heap.size ≤ E) : OwnFrom E (IQ wr cs b f c) := by
  rintro s X Y row ⟨h0, ⟨p0, i, y, h1, h2, h3, h4⟩, h5, h6, h7⟩ hg hr
  have hr' : ∀ r, row = some r → ∃ o : Obj, X.heap[r]? = some o ∧ o.isCells = false := fun r e => (hr r e).2
  exact ⟨h0, ⟨p0, i, y, h1, h2, h3, h4.noncell hg hr'⟩, h5.grown hg h5.size (fun k e => Nat.le_trans hE (hr k e).1), h6.noncell hg hr', h7.noncell hg hr'⟩
theorem IP_R {wr : World} {cs : Array Value} {b : Nat} {f : Nat → Bool} (s : List (Nat × Nat)) (X Y : World) (h : IP wr cs b f s X) (hr : RI X Y) : IP wr cs b f s Y := by
  obtain ⟨h1, h2, h3, h4, h5⟩ := h
  exact ⟨h1, h2.trans (hr.mono h2.size), h3.below hr h3.lt, h4.below hr h4.lt, h5.below hr h5.lt⟩
theorem IQ_R {wr : World} {cs : Array Value} {b : Nat} {f : Nat → Bool} (c : Code) (s : List (Nat × Nat)) (X Y : World) (h : IQ wr cs b f c s X) (hr : RI X Y) : IQ wr cs b f c s Y := by
  obtain ⟨h0, ⟨p0, i, y, h1, h2, h3, h4⟩, h5, h6, h7⟩ := h
  exact ⟨h0, ⟨p0, i, y, h1, h2, h3, h4.below hr h4.lt⟩, h5.trans (hr.mono h5.size), h6.below hr h6.lt, h7.below hr h7.lt⟩
theorem IQ_Z {w wr : World} {cs : Array Value} {b : Nat} {f : Nat → Bool} (hag : Agree w.heap.size w wr) (c : Code) (s : List (Nat × Nat)) (X : World) (h : IQ wr cs b f c s X) : ZI w (wr.heap.size + 1) (wr.heap.size + 1 + 1) cs b X := by
  obtain ⟨_, _, h5, h6, h7⟩ := h
  exact ⟨⟨Nat.le_trans hag.1 h5.size, fun j hj => (h5.block j (Nat.lt_of_lt_of_le hj hag.1)).trans (hag.2 j hj)⟩, h6, h7⟩
theorem IP.more {wr W : World} {cs : Array Value} {b i y : Nat} {f : Nat → Bool} {pre : List (Nat × Nat)} (h : IP wr cs b f pre W) (hy : f y = false) : IP wr cs b f (pre ++ [(i, y)]) W := by
  refine ⟨fun x hx => ?_, h.2⟩
  rcases List.mem_append.1 hx with hx | hx
  · exact h.1 x hx
  · simp at hx
    rw [hx]
    exact hy
theorem IP.hit {wr W : World} {cs : Array Value} {b i y : Nat} {f : Nat → Bool} {pre : List (Nat × Nat)} (h : IP wr cs b f pre W) (hy : f y = true) : IQ wr cs b f (.exit 8) (pre ++ [(i, y)]) (W.setCell ⟨wr.heap.size, 0, none⟩ (.int .i64 (i : Int))) := by
  obtain ⟨h1, h2, h3, h4, h5⟩ := h
  refine ⟨rfl, ⟨pre, i, y, rfl, h1, hy, by have := h3.put 0 (.int .i64 (i : Int)); simpa using this⟩, h2.setCell (p := ⟨wr.heap.size, 0, none⟩) (Nat.le_refl _) _, ?_, ?_⟩
  · exact Blk.far (p := ⟨wr.heap.size, 0, none⟩) h4 (show wr.heap.size + 1 ≠ wr.heap.size by omega) _
  · exact Blk.far (p := ⟨wr.heap.size, 0, none⟩) h5 (show wr.heap.size + 1 + 1 ≠ wr.heap.size by omega) _

/-- what Order tells of a change -/
def OrdPost (m : Nat) (Rw : Nat → R) (n : Nat) (S T : Nat → U) (w : World) (e : Ending) (w' : World) : Prop :=
  Below w.heap.size w w' ∧ ((cmp m Rw S n = false ∧ e = .returned (.tuple #[.slice none 0 0, .int .i64 6])) ∨
    (cmp m Rw S n = true ∧ ((∃ p, Gp m Rw n S T p (gl S T n) ∧ ∃ A c, e = .returned (.tuple #[.slice A p.length c, .int .i64 0]) ∧ NumsIn w' A p) ∨
      (∃ p b, Gp m Rw n S T p b ∧ b ≠ gl S T n ∧ nxt m Rw n S T b = none ∧ e = .returned (.tuple #[.slice none 0 0, .int .i64 6])))))

set_option maxRecDepth 100000 in
set_option maxHeartbeats 4000000 in
theorem order_ok (A1 A2 A3 : Option Addr) (n c1 c2 m c3 : Nat) (S T : Nat → U) (Rw : Nat → R) (w : World) (hS : UnitsIn w A1 n S) (hT : UnitsIn w A2 n T) (hR : RowsIn w A3 m Rw) (hF : Fits S n) (hnc : n ≤ c1) (hv : chg n n S T = true) :
    Calls Try.prog 12 #[.slice A3 m c3, .slice A1 n c1, .slice A2 n c2] w (OrdPost m Rw n S T w) := by
  obtain ⟨h8, _, _, hM⟩ := chg_parts hv
  obtain ⟨i0, hi, hz0, hz1, hz2⟩ := info_parts Try.info3'
  have hi' := Lib.hid hi
  have hz0' := Lib.hid hz0
  have hz1' := Lib.hid hz1
  have hz2' := Lib.hid hz2
  clear hi hz0 hz1 hz2
  have HS := Lib.hid hS
  have HT := Lib.hid hT
  have HR := Lib.hid hR
  have HF := Lib.hid hF
  have HM := Lib.hid hM
  have HV := Lib.hid hv
  clear hS hT hR hF hM hv
  refine (callsIn_wide (n := 5)).1 ?_
  refine callsIn_of_wp_marks Try.func12 rfl trivial ?_ rfl
  simp only [Try.ntmps12, List.size_toArray, List.length_cons, List.length_nil, Nat.reduceAdd, Nat.reduceSub, Array.replicate_succ, Array.replicate_zero, List.push_toArray, List.append_toArray, List.nil_append, List.cons_append]
  have hz := zero57
  gi_wp2_with fail
  obtain ⟨W, hW⟩ : ∃ W, w.alloc (.cells #[.slice A1 n c1, .slice A2 n c2, .slice A3 m c3] 56) = W := ⟨_, rfl⟩
  rw [hW]
  have b8 : Blk W w.heap.size 56 #[.slice A1 n c1, .slice A2 n c2, .slice A3 m c3] := by rw [← hW]; exact Blk.made _ _ _
  have k : Below w.heap.size w W := by rw [← hW]; exact (Below.refl _ _).alloc (Nat.le_refl _) _
  refine ⟨trivial, ?_⟩
  refine (callsIn_wide.2 (change_any A1 A2 A3 n c1 n c2 m c3 S T W (HS.out.below k (Nat.le_refl _)) (HT.out.below k (Nat.le_refl _)) HF.out (by omega))).mono ?_
  rintro e w1 ⟨rfl, k1⟩
  rw [HV.out]
  have B8 := Lib.hid (b8.below k1 b8.lt)
  have K1 := Lib.hid (k.trans (k1.mono k.size))
  clear b8 k k1 hW
  gi_wp2_with fail
  gi_loopw [9, 29] (fun g i wr => ∃ k : Nat, k ≤ n ∧ i = .int .i64 k ∧ g = .int .i64 (gl S T k : Nat) ∧ Blk wr w.heap.size 56 #[.slice A1 n c1, .slice A2 n c2, .slice A3 m c3] ∧ Below w.heap.size w wr)
    (fun _ i _ => n - (intOf i).toNat)
  case atStart => exact ⟨0, Nat.zero_le _, rfl, rfl, B8.out, K1.out⟩
  case round =>
    obtain ⟨k, hk, rfl, rfl, hb8, kr⟩ := hrel
    by_cases hlt : k < n
    · have k8 : k < 8 := by omega
      obtain ⟨ob, off, rfl, hob, hcell⟩ := HS.out.2 (by omega)
      obtain ⟨q6, q7⟩ := hcell k hlt
      clear hcell
      obtain ⟨ob2, off2, rfl, hob2, hcell⟩ := HT.out.2 (by omega)
      obtain ⟨q8, q9⟩ := hcell k hlt
      clear hcell
      have y6 := (kr.cell (p := ⟨ob, off + k * 2, none⟩) hob).trans q6
      have y7 := (kr.cell (p := ⟨ob, off + k * 2 + 1, none⟩) hob).trans q7
      have y8 := (kr.cell (p := ⟨ob2, off2 + k * 2, none⟩) hob2).trans q8
      have y9 := (kr.cell (p := ⟨ob2, off2 + k * 2 + 1, none⟩) hob2).trans q9
      have hmk := HM.out k hlt
      rw [← hmk] at y8
      clear q6 q7 q8 q9
      have gk := gl_lt S T (k := k) (by omega)
      obtain ⟨sa, hsa⟩ : ∃ sa, (S k).1 = sa := ⟨_, rfl⟩
      obtain ⟨sv, hsv⟩ : ∃ sv, (S k).2 = sv := ⟨_, rfl⟩
      obtain ⟨tv, htv⟩ : ∃ tv, (T k).2 = tv := ⟨_, rfl⟩
      have hdf : Hid (df S T k = !(sv == tv)) := Lib.hid (by unfold df; rw [hmk, hsv, htv]; simp)
      have HGL : Hid (gl S T (k + 1) = if df S T k = true then up (gl S T k) k else gl S T k) := Lib.hid rfl
      rw [hsa] at y6 y8
      rw [hsv] at y7
      rw [htv] at y9
      clear hsa hsv htv hmk
      have g0 : decide (n ≤ k) = false := decide_eq_false (by omega)
      have g1' : decide ((k : Int) < 0) = false := decide_eq_false (by omega)
      obtain ⟨gg, hgg⟩ : ∃ gg, gl S T k = gg := ⟨_, rfl⟩
      rw [hgg] at gk HGL
      rw [hgg]
      clear hgg
      have HB := Lib.hid hb8
      have KR := Lib.hid kr
      clear hb8 kr
      by_cases hv : sv = tv
      · subst hv
        have HGE : Hid (gl S T (k + 1) = gg) := Lib.hid (by rw [HGL.out, hdf.out]; simp)
        clear HGL
        gi_wp2_with fail
        refine region_SN (fun w' : World => w'.cell? ⟨ob, off + k * 2, none⟩ = some (.string sa) ∧ w'.cell? ⟨ob, off + k * 2 + 1, none⟩ = some (.int .i64 sv) ∧ w'.cell? ⟨ob2, off2 + k * 2, none⟩ = some (.string sa) ∧ w'.cell? ⟨ob2, off2 + k * 2 + 1, none⟩ = some (.int .i64 sv)) (by kernel_rfl) (by exact ⟨y6, y7, y8, y9⟩) (fun hS0 => ?_)
        refine as_take (i := 0) (v := ?_) (some 32) (by kernel_rfl) rfl rfl (by kernel_rfl) (by kernel_rfl) (by kernel_rfl) (fun _ _ _ h => h) (fun _ _ _ => trivial) (by kernel_rfl) ?_ (by assumption) ?_
        rotate_left
        · (intro w hSw; (try dsimp only at hSw); go_simp; (first | done | with_reducible rfl))
        simp only [Act.put, List.setIfInBounds_toArray, List.set_cons_zero, List.set_cons_succ]
        refine as_take (i := 1) (v := ?_) (some 33) (by kernel_rfl) rfl rfl (by kernel_rfl) (by kernel_rfl) (by kernel_rfl) (fun _ _ _ h => h) (fun _ _ _ => trivial) (by kernel_rfl) ?_ (by assumption) ?_
        rotate_left
        · (intro w hSw; (try dsimp only at hSw); go_simp; (first | done | with_reducible rfl))
        simp only [Act.put, List.setIfInBounds_toArray, List.set_cons_zero, List.set_cons_succ]
        refine as_take (i := 2) (v := ?_) (some 34) (by kernel_rfl) rfl rfl (by kernel_rfl) (by kernel_rfl) (by kernel_rfl) (fun _ _ _ h => h) (fun _ _ _ => trivial) (by kernel_rfl) ?_ (by assumption) ?_
        rotate_left
        · (intro w hSw; (try dsimp only at hSw); go_simp; (first | done | with_reducible rfl))
        simp only [Act.put, List.setIfInBounds_toArray, List.set_cons_zero, List.set_cons_succ]
        refine as_take (i := 3) (v := ?_) (some 35) (by kernel_rfl) rfl rfl (by kernel_rfl) (by kernel_rfl) (by kernel_rfl) (fun _ _ _ h => h) (fun _ _ _ => trivial) (by kernel_rfl) ?_ (by assumption) ?_
        rotate_left
        · (intro w hSw; (try dsimp only at hSw); go_simp; (first | done | with_reducible rfl))
        simp only [Act.put, List.setIfInBounds_toArray, List.set_cons_zero, List.set_cons_succ]
        refine as_take (i := 4) (v := ?_) (some 36) (by kernel_rfl) rfl rfl (by kernel_rfl) (by kernel_rfl) (by kernel_rfl) (fun _ _ _ h => h) (fun _ _ _ => trivial) (by kernel_rfl) ?_ (by assumption) ?_
        rotate_left
        · (intro w hSw; (try dsimp only at hSw); go_simp; (first | done | with_reducible rfl))
        simp only [Act.put, List.setIfInBounds_toArray, List.set_cons_zero, List.set_cons_succ]
        refine as_take (i := 5) (v := ?_) (some 37) (by kernel_rfl) rfl rfl (by kernel_rfl) (by kernel_rfl) (by kernel_rfl) (fun _ _ _ h => h) (fun _ _ _ => trivial) (by kernel_rfl) ?_ (by assumption) ?_
        rotate_left
        · (intro w hSw; (try dsimp only at hSw); go_simp; (first | done | with_reducible rfl))
        simp only [Act.put, List.setIfInBounds_toArray, List.set_cons_zero, List.set_cons_succ]
        refine as_take (i := 6) (v := ?_) (some 38) (by kernel_rfl) rfl rfl (by kernel_rfl) (by kernel_rfl) (by kernel_rfl) (fun _ _ _ h => h) (fun _ _ _ => trivial) (by kernel_rfl) ?_ (by assumption) ?_
        rotate_left
        · (intro w hSw; (try dsimp only at hSw); go_simp; (first | done | with_reducible rfl))
        simp only [Act.put, List.setIfInBounds_toArray, List.set_cons_zero, List.set_cons_succ]
        refine as_take (i := 7) (v := ?_) (some 39) (by kernel_rfl) rfl rfl (by kernel_rfl) (by kernel_rfl) (by kernel_rfl) (fun _ _ _ h => h) (fun _ _ _ => trivial) (by kernel_rfl) ?_ (by assumption) ?_
        rotate_left
        · (intro w hSw; (try dsimp only at hSw); go_simp; (first | done | with_reducible rfl))
        simp only [Act.put, List.setIfInBounds_toArray, List.set_cons_zero, List.set_cons_succ]
        refine as_take (i := 8) (v := ?_) (some 40) (by kernel_rfl) rfl rfl (by kernel_rfl) (by kernel_rfl) (by kernel_rfl) (fun _ _ _ h => h) (fun _ _ _ => trivial) (by kernel_rfl) ?_ (by assumption) ?_
        rotate_left
        · (intro w hSw; (try dsimp only at hSw); go_simp; (first | done | with_reducible rfl))
        simp only [Act.put, List.setIfInBounds_toArray, List.set_cons_zero, List.set_cons_succ]
        refine as_done (by kernel_rfl) ?_ _
        refine NoPanic.normal ?_
        gi_wp2_with fail
        go_roundw
        case rel => exact ⟨k + 1, by omega, by go_num, by rw [HGE.out], HB.out, Below.drew KR.out⟩
        case measure => simp [intOf]; omega
      · have HGE : Hid (gl S T (k + 1) = up gg k) := Lib.hid (by rw [HGL.out, hdf.out]; simp [hv])
        have hwr := wrap_two k8
        have hor := up_int gk k8
        clear HGL
        gi_wp2_with fail
        refine region_SN (fun w' : World => w'.cell? ⟨ob, off + k * 2, none⟩ = some (.string sa) ∧ w'.cell? ⟨ob, off + k * 2 + 1, none⟩ = some (.int .i64 sv) ∧ w'.cell? ⟨ob2, off2 + k * 2, none⟩ = some (.string sa) ∧ w'.cell? ⟨ob2, off2 + k * 2 + 1, none⟩ = some (.int .i64 tv)) (by kernel_rfl) (by exact ⟨y6, y7, y8, y9⟩) (fun hS0 => ?_)
        refine as_take (i := 0) (v := ?_) (some 32) (by kernel_rfl) rfl rfl (by kernel_rfl) (by kernel_rfl) (by kernel_rfl) (fun _ _ _ h => h) (fun _ _ _ => trivial) (by kernel_rfl) ?_ (by assumption) ?_
        rotate_left
        · (intro w hSw; (try dsimp only at hSw); go_simp; (first | done | with_reducible rfl))
        simp only [Act.put, List.setIfInBounds_toArray, List.set_cons_zero, List.set_cons_succ]
        refine as_take (i := 1) (v := ?_) (some 33) (by kernel_rfl) rfl rfl (by kernel_rfl) (by kernel_rfl) (by kernel_rfl) (fun _ _ _ h => h) (fun _ _ _ => trivial) (by kernel_rfl) ?_ (by assumption) ?_
        rotate_left
        · (intro w hSw; (try dsimp only at hSw); go_simp; (first | done | with_reducible rfl))
        simp only [Act.put, List.setIfInBounds_toArray, List.set_cons_zero, List.set_cons_succ]
        refine as_take (i := 2) (v := ?_) (some 34) (by kernel_rfl) rfl rfl (by kernel_rfl) (by kernel_rfl) (by kernel_rfl) (fun _ _ _ h => h) (fun _ _ _ => trivial) (by kernel_rfl) ?_ (by assumption) ?_
        rotate_left
        · (intro w hSw; (try dsimp only at hSw); go_simp; (first | done | with_reducible rfl))
        simp only [Act.put, List.setIfInBounds_toArray, List.set_cons_zero, List.set_cons_succ]
        refine as_take (i := 3) (v := ?_) (some 35) (by kernel_rfl) rfl rfl (by kernel_rfl) (by kernel_rfl) (by kernel_rfl) (fun _ _ _ h => h) (fun _ _ _ => trivial) (by kernel_rfl) ?_ (by assumption) ?_
        rotate_left
        · (intro w hSw; (try dsimp only at hSw); go_simp; (first | done | with_reducible rfl))
        simp only [Act.put, List.setIfInBounds_toArray, List.set_cons_zero, List.set_cons_succ]
        refine as_take (i := 4) (v := ?_) (some 36) (by kernel_rfl) rfl rfl (by kernel_rfl) (by kernel_rfl) (by kernel_rfl) (fun _ _ _ h => h) (fun _ _ _ => trivial) (by kernel_rfl) ?_ (by assumption) ?_
        rotate_left
        · (intro w hSw; (try dsimp only at hSw); go_simp; (first | done | with_reducible rfl))
        simp only [Act.put, List.setIfInBounds_toArray, List.set_cons_zero, List.set_cons_succ]
        refine as_take (i := 5) (v := ?_) (some 37) (by kernel_rfl) rfl rfl (by kernel_rfl) (by kernel_rfl) (by kernel_rfl) (fun _ _ _ h => h) (fun _ _ _ => trivial) (by kernel_rfl) ?_ (by assumption) ?_
        rotate_left
        · (intro w hSw; (try dsimp only at hSw); go_simp; (first | done | with_reducible rfl))
        simp only [Act.put, List.setIfInBounds_toArray, List.set_cons_zero, List.set_cons_succ]
        refine as_take (i := 6) (v := ?_) (some 38) (by kernel_rfl) rfl rfl (by kernel_rfl) (by kernel_rfl) (by kernel_rfl) (fun _ _ _ h => h) (fun _ _ _ => trivial) (by kernel_rfl) ?_ (by assumption) ?_
        rotate_left
        · (intro w hSw; (try dsimp only at hSw); go_simp; (first | done | with_reducible rfl))
        simp only [Act.put, List.setIfInBounds_toArray, List.set_cons_zero, List.set_cons_succ]
        refine as_take (i := 7) (v := ?_) (some 39) (by kernel_rfl) rfl rfl (by kernel_rfl) (by kernel_rfl) (by kernel_rfl) (fun _ _ _ h => h) (fun _ _ _ => trivial) (by kernel_rfl) ?_ (by assumption) ?_
        rotate_left
        · (intro w hSw; (try dsimp only at hSw); go_simp; (first | done | with_reducible rfl))
        simp only [Act.put, List.setIfInBounds_toArray, List.set_cons_zero, List.set_cons_succ]
        refine as_take (i := 8) (v := ?_) (some 40) (by kernel_rfl) rfl rfl (by kernel_rfl) (by kernel_rfl) (by kernel_rfl) (fun _ _ _ h => h) (fun _ _ _ => trivial) (by kernel_rfl) ?_ (by assumption) ?_
        rotate_left
        · (intro w hSw; (try dsimp only at hSw); go_simp; (first | done | with_reducible rfl))
        simp only [Act.put, List.setIfInBounds_toArray, List.set_cons_zero, List.set_cons_succ]
        refine as_done (by kernel_rfl) ?_ _
        refine NoPanic.normal ?_
        gi_wp2_with fail
        go_roundw
        case rel => exact ⟨k + 1, by omega, by go_num, by rw [HGE.out], HB.out, Below.drew KR.out⟩
        case measure => simp [intOf]; omega
    · obtain rfl : k = n := by omega
      have gk := gl_lt S T h8
      obtain ⟨gg, hgg⟩ : ∃ gg, gl S T k = gg := ⟨_, rfl⟩
      have HG := Lib.hid hgg
      rw [hgg] at gk
      rw [hgg]
      clear hgg
      have HB := Lib.hid hb8
      have KR := Lib.hid kr
      clear hb8 kr hlt
      gi_wp2_with fail
      refine ⟨trivial, ?_⟩
      refine (callsIn_wide.2 (compat_any A3 A1 m c3 k c1 Rw S wr (HR.out.below KR.out (Nat.le_refl _)) (HS.out.below KR.out (Nat.le_refl _)) hnc)).mono ?_
      rintro e w2 ⟨rfl, k2⟩
      have B2 := Lib.hid (HB.out.below k2 HB.out.lt)
      have K2 := Lib.hid (KR.out.trans (k2.mono KR.out.size))
      clear k2
      cases hok : cmp m Rw S k with
      | false =>
        have HOK := Lib.hid hok
        clear hok
        gi_wp2_with fail
        refine marks_leave (B := w.heap.size) [] _ trivial (fun W' hs => ⟨_, res_two rfl, ?_⟩)
        exact ⟨K2.out.trans hs.1, .inl ⟨HOK.out, rfl⟩⟩
      | true =>
        have HOK := Lib.hid hok
        clear hok
        -- the array of marks, the counter's box
        obtain ⟨w3, hw3⟩ : ∃ w3, w2.alloc (.cells Z57 57) = w3 := ⟨_, rfl⟩
        have a3 : Arr w3 w2.heap.size (fun _ => false) := Arr.zero (by rw [← hw3]; exact Blk.made _ _ _)
        have b3 : Blk w3 w.heap.size 56 #[.slice A1 k c1, .slice A2 k c2, .slice A3 m c3] := by rw [← hw3]; exact B2.out.alloc _
        have k3 : Below w.heap.size w w3 := by rw [← hw3]; exact K2.out.alloc K2.out.size _
        have y0 := (a3.2 gg gk).1
        have y1 := (a3.2 gg gk).2
        rw [← hw3] at y0 y1
        have s3 : w3.heap.size = w2.heap.size + 1 := by rw [← hw3]; simp
        have HW3 := Lib.hid hw3
        have HA3 := Lib.hid a3
        have HB3 := Lib.hid b3
        have HK3 := Lib.hid k3
        have HS3 := Lib.hid s3
        have hd0 : decide ((gg : Int) < 0) = false := decide_eq_false (by omega)
        have hd1 : decide (256 ≤ gg) = false := decide_eq_false (by omega)
        clear a3 b3 k3 hw3 s3
        gi_wp2_with fail
        obtain ⟨W4, hW4⟩ : ∃ W4, (w2.alloc (.cells (Z57.setIfInBounds gg (.int .i64 1)) 57)).alloc (.cells #[.int .i64 (gg : Int)] 3) = W4 := ⟨_, rfl⟩
        rw [hW4]
        have a4 : Arr W4 w2.heap.size (fun b => decide (b = gg)) := arr_one (by rw [← hW4]; exact (Blk.made _ _ _).alloc _)
        have q4 : Blk W4 (w2.heap.size + 1) 3 #[.int .i64 (gg : Int)] := by rw [← hW4]; exact Blk.made_at _ _ _ (by simp)
        have b4 : Blk W4 w.heap.size 56 #[.slice A1 k c1, .slice A2 k c2, .slice A3 m c3] := by rw [← hW4]; exact (B2.out.alloc _).alloc _
        have k4 : Below w.heap.size w W4 := by rw [← hW4]; exact (K2.out.alloc K2.out.size _).alloc (by have := K2.out.size; simp; omega) _
        have hlbw := K2.out.size
        have hblt := B2.out.lt
        clear hW4 hd0 hd1 hz y0 y1 HW3 HA3 HB3 HK3 HS3
        obtain ⟨lb, hlb⟩ : ∃ lb, w2.heap.size = lb := ⟨_, rfl⟩
        rw [hlb] at a4 q4 hlbw hblt ⊢
        clear hlb
        refine wpIn_loop (fun a' wr => ∃ (u12 u14 u53 u54 u55 u56 u57 u58 u59 u60 u61 u62 u63 u64 u65 u66 u67 u68 u69 u70 u71 : Value) (ds : List Deferred), (∃ (q c : Nat) (v : Int), c ≤ gg + 1 ∧ u12 = .pointer (some ⟨q, 0, none⟩) ∧ v = (gg : Int) - c ∧ Blk wr q 3 #[.int .i64 v] ∧ lb < q ∧ Arr wr lb (ld m Rw k S T gg c) ∧ Blk wr w.heap.size 56 #[.slice A1 k c1, .slice A2 k c2, .slice A3 m c3] ∧ Below w.heap.size w wr ∧ Marks w.heap.size ds wr ∧ ds.length = c) ∧ a' = { tmps := #[.slice A3 m c3, .slice A1 k c1, .slice A2 k c2, undef, undef, undef, .slice none 0 0, .int .i64 0, .pointer (some ⟨w.heap.size, 0, none⟩), .int .i64 (gg : Int), u10, .pointer (some ⟨lb, 0, none⟩), u12, undef, u14, undef, undef, undef, undef, undef, .slice A1 k c1, .slice A2 k c2, .slice A3 m c3, .agg #[.slice A1 k c1, .slice A2 k c2, .slice A3 m c3], .agg #[.slice A1 k c1, .slice A2 k c2, .slice A3 m c3], .bool true, .bool false, .slice A1 k c1, .int .i64 (k : Int), .int .i64 (k : Int), .bool false, u31, u32, u33, u34, u35, u36, u37, u38, u39, u40, u41, u42, u43, u44, u45, .slice A3 m c3, .slice A1 k c1, .bool true, .bool false, .int .i64 (gg : Int), .pointer (some ⟨lb, gg, none⟩), .int .i64 (gg : Int), u53, u54, u55, u56, u57, u58, u59, u60, u61, u62, u63, u64, u65, u66, u67, u68, u69, u70, u71, undef, undef, undef, undef, undef, undef, undef, undef, undef, undef, undef, undef, undef, undef, undef, undef, undef, undef, undef, undef, undef, undef, undef, undef], defers := ds })
          (fun a' _ => gg + 1 - a'.defers.length) ?_ ?_
        · exact ⟨_, _, _, _, _, _, _, _, _, _, _, _, _, _, _, _, _, _, _, _, _, [], ⟨lb + 1, 0, _, by omega, rfl, by omega, q4, by omega, a4, b4, k4, trivial, rfl⟩, rfl⟩
        · rintro a' wr ⟨u12, u14, u53, u54, u55, u56, u57, u58, u59, u60, u61, u62, u63, u64, u65, u66, u67, u68, u69, u70, u71, ds, ⟨q, c, v, hc, rfl, hv, hq, hlq, ha, hb, kr, hmk, hlen⟩, rfl⟩
          try dsimp only
          by_cases hlt : c ≤ gg
          · obtain ⟨t, rfl⟩ : ∃ t : Nat, v = t := ⟨gg - c, by omega⟩
            have htg : t = gg - c := by omega
            have t256 : t < 256 := by omega
            have z0 : wr.cell? ⟨q, 0, none⟩ = some (.int .i64 (t : Int)) := hq.cell 0
            have yb0 : wr.cell? ⟨w.heap.size, 0, none⟩ = some (.slice A1 k c1) := hb.cell 0
            have yb1 : wr.cell? ⟨w.heap.size, 1, none⟩ = some (.slice A2 k c2) := hb.cell 1
            have yb2 : wr.cell? ⟨w.heap.size, 2, none⟩ = some (.slice A3 m c3) := hb.cell 2
            have HA := Lib.hid ha
            have HB := Lib.hid hb
            have HQ := Lib.hid hq
            have KRr := Lib.hid kr
            have HK := Lib.hid hmk
            have HV := Lib.hid hv
            have HTG := Lib.hid htg
            clear ha hb hq kr hmk hv htg
            gi_wp2_with fail
            refine ⟨trivial, ?_⟩
            refine (callsIn_wide.2 (steps_any #[.slice A1 k c1, .slice A2 k c2, .slice A3 m c3] (t : Int) wr rfl)).mono ?_
            rintro e wd ⟨rfl, hwd⟩
            have g1b : Blk wd wr.heap.size 56 #[.slice A1 k c1, .slice A2 k c2, .slice A3 m c3] := by rw [← hwd]; exact (Blk.made _ _ _).alloc _
            have g2b : Blk wd (wr.heap.size + 1) 3 #[.int .i64 (t : Int)] := by rw [← hwd]; exact Blk.made_at _ _ _ (by simp)
            have hsd : wd.heap.size = wr.heap.size + 1 + 1 := by rw [← hwd]; simp
            have kd : Below wr.heap.size wr wd := by rw [← hwd]; exact ((Below.refl _ _).alloc (Nat.le_refl _) _).alloc (by simp) _
            have HAd := Lib.hid (HA.out.of_block (kd.block _ HA.out.1))
            have HBd := Lib.hid (HB.out.below kd HB.out.lt)
            have HQd := Lib.hid (HQ.out.below kd HQ.out.lt)
            have KRd := Lib.hid (KRr.out.trans (kd.mono KRr.out.size))
            have HKd := Lib.hid (HK.out.below kd)
            have hsw := KRr.out.size
            have HML := Lib.hid HKd.out.lt
            have hql := HQ.out.lt
            have HSD := Lib.hid hsd
            clear z0 yb0 yb1 yb2 hwd kd hsd
            gi_wp2_with fail
            have hfseq : SeqR Fence.wide 4 Try.prog 42 #[.pointer (some ⟨wr.heap.size, 0, none⟩), .pointer (some ⟨wr.heap.size + 1, 0, none⟩)] encs (KpI w.heap.size wr.heap.size (wr.heap.size + 1)) RI (ZI w wr.heap.size (wr.heap.size + 1) #[.slice A1 k c1, .slice A2 k c2, .slice A3 m c3] t) (OkI m Rw k S T t) (SI m Rw k S T t) (SpI m Rw k S T t) 8 wd :=
              fun l J0 Jx W hW hJ _ hZ hY h0 => steps1 4 l wr.heap.size (wr.heap.size + 1) A1 A2 A3 k c1 c2 m c3 t S T Rw w HS.out HT.out HR.out h8 t256 HM.out J0 Jx hJ hZ W (g1b.below hW g1b.lt) (g2b.below hW g2b.lt)
                ⟨Nat.le_trans KRd.out.size hW.size, fun j hj => (hW.block j (Nat.lt_of_lt_of_le hj KRd.out.size)).trans (KRd.out.block j hj)⟩ (by omega) hY h0
            refine wpIn_rangeFunc_R rfl (by omega) (gf := 42) (lb := #[.pointer (some ⟨wr.heap.size, 0, none⟩), .pointer (some ⟨wr.heap.size + 1, 0, none⟩)]) rfl trivial (enters_of Try.func42 (by kernel_rfl) rfl)
              hfseq (fun X Y h l h1 h2 => h.block l h2)
              (fun h k => ⟨Nat.le_trans h.1 k.1, fun j hj => (k.2 j hj).trans (h.2 j hj)⟩)
              (fun W l o o' hl ho _ _ => ⟨by simp, fun k hk => World.putObj_heap_other (by have := HSD.out; omega)⟩) (Below.refl _ _) (fun _ => rfl)
              (IO w lb q t #[.slice A1 k c1, .slice A2 k c2, .slice A3 m c3] ds (ld m Rw k S T gg c)) (fun _ _ _ => False) (IO_own (by have := HSD.out; omega) HML.out) (fun _ _ _ _ _ h _ _ => h.elim) IO_R (fun _ _ _ _ h _ => h.elim) (fun _ _ _ h => h.elim)
              ⟨HAd.out.congr (fun b _ => by by_cases e : b = t <;> simp [e]), HBd.out, HQd.out, KRd.out, HKd.out⟩
              (fun x => { tmps := #[.slice A3 m c3, .slice A1 k c1, .slice A2 k c2, undef, undef, undef, .slice none 0 0, .int .i64 0, .pointer (some ⟨w.heap.size, 0, none⟩), .int .i64 (gg : Int), u10, .pointer (some ⟨lb, 0, none⟩), .pointer (some ⟨q, 0, none⟩), undef, .int .i64 (x.2 : Int), undef, undef, undef, undef, undef, .slice A1 k c1, .slice A2 k c2, .slice A3 m c3, .agg #[.slice A1 k c1, .slice A2 k c2, .slice A3 m c3], .agg #[.slice A1 k c1, .slice A2 k c2, .slice A3 m c3], .bool true, .bool false, .slice A1 k c1, .int .i64 (k : Int), .int .i64 (k : Int), .bool false, u31, u32, u33, u34, u35, u36, u37, u38, u39, u40, u41, u42, u43, u44, u45, .slice A3 m c3, .slice A1 k c1, .bool true, .bool false, .int .i64 (gg : Int), .pointer (some ⟨lb, gg, none⟩), .int .i64 (gg : Int), .int .i64 (t : Int), .bool true, u55, u56, .agg #[.slice A1 k c1, .slice A2 k c2, .slice A3 m c3], .int .i64 (t : Int), .func (.func 42) #[] #[.pointer (some ⟨wr.heap.size, 0, none⟩), .pointer (some ⟨wr.heap.size + 1, 0, none⟩)], .int .i64 (x.1 : Int), .int .i64 (x.2 : Int), u62, u63, u64, u65, u66, u67, u68, u69, u70, u71, undef, undef, undef, undef, undef, undef, undef, undef, undef, undef, undef, undef, undef, undef, undef, undef, undef, undef, undef, undef, undef, undef, undef, undef], defers := [] }) ?assign ?body ?done ?stop
            case assign =>
              intro l x W K hK
              gi_wp2
              exact hK
            case body =>
              rintro l pre ⟨i, y⟩ W ⟨hi1, hi2, hi3⟩ hIO hlen
              replace hi3 : y = up t i := hi3
              replace hi1 : i < k := hi1
              replace hi2 : stp m Rw k S T t i = true := hi2
              have y256 : y < 256 := by rw [hi3]; exact up_lt t256 (by omega)
              have hyt : y ≠ t := fun e => by
                rw [hi3] at e
                have := (up_same t256 (by omega)).1 e
                simp [stp, this] at hi2
              clear hi1 hi2 hi3
              obtain ⟨h1, h2, h3, h4, h5⟩ := id hIO
              have z0 : W.cell? ⟨q, 0, none⟩ = some (.int .i64 (t : Int)) := h3.cell 0
              have zt := (h1.2 t t256).1
              have zf := (h1.2 t t256).2
              have zy := (h1.2 y y256).1
              simp only [if_true] at zt
              simp only [if_neg hyt] at zy
              have hd0 : decide ((y : Int) < 0) = false := decide_eq_false (by omega)
              have hd1 : decide (256 ≤ y) = false := decide_eq_false (by omega)
              have hd2 : decide ((t : Int) < 0) = false := decide_eq_false (by omega)
              have hd3 : decide (256 ≤ t) = false := decide_eq_false (by omega)
              have hd4 : (t : Int) < 256 := by omega
              have hd5 : (y : Int) < 256 := by omega
              clear h1 h2 h3 h4 h5
              have HIO := Lib.hid hIO
              have hql2 : q ≠ lb := by omega
              clear hIO
              obtain ⟨a, ha⟩ : ∃ a, (ld m Rw k S T gg c t || pre.any (fun x => ld m Rw k S T gg c x.2)) = a := ⟨_, rfl⟩
              obtain ⟨b, hb⟩ : ∃ b, ld m Rw k S T gg c y = b := ⟨_, rfl⟩
              rw [ha] at zt
              rw [hb] at zy
              have HAa := Lib.hid ha
              have HBb := Lib.hid hb
              clear ha hb
              cases a <;> cases b
              · rw [show bv false = 0 from rfl] at zt
                rw [show bv false = 0 from rfl] at zy
                gi_wp2
                refine region_S (fun w' : World => w'.cell? ⟨q, 0, none⟩ = some (.int .i64 (t : Int))) (by kernel_rfl) (by exact z0) (fun hS0 => ?_)
                refine as_take (i := 0) (v := ?_) (some 62) (by kernel_rfl) rfl rfl (by kernel_rfl) (by kernel_rfl) (by kernel_rfl) (fun _ _ _ h => h) (fun _ _ _ => trivial) (by kernel_rfl) ?_ (by assumption) ?_
                rotate_left
                · (intro w hSw; (try dsimp only at hSw); go_simp; (first | done | with_reducible rfl))
                simp only [Act.put, List.setIfInBounds_toArray, List.set_cons_zero, List.set_cons_succ]
                refine as_take (i := 1) (v := ?_) (some 63) (by kernel_rfl) rfl rfl (by kernel_rfl) (by kernel_rfl) (by kernel_rfl) (fun _ _ _ h => h) (fun _ _ _ => trivial) (by kernel_rfl) ?_ (by assumption) ?_
                rotate_left
                · (intro w hSw; (try dsimp only at hSw); go_simp; (first | done | with_reducible rfl))
                simp only [Act.put, List.setIfInBounds_toArray, List.set_cons_zero, List.set_cons_succ]
                refine as_take (i := 2) (v := ?_) (some 64) (by kernel_rfl) rfl rfl (by kernel_rfl) (by kernel_rfl) (by kernel_rfl) (fun _ _ _ h => h) (fun _ _ _ => trivial) (by kernel_rfl) ?_ (by assumption) ?_
                rotate_left
                · (intro w hSw; (try dsimp only at hSw); go_simp; (first | done | with_reducible rfl))
                simp only [Act.put, List.setIfInBounds_toArray, List.set_cons_zero, List.set_cons_succ]
                refine as_take (i := 4) (v := ?_) (some 66) (by kernel_rfl) rfl rfl (by kernel_rfl) (by kernel_rfl) (by kernel_rfl) (fun _ _ _ h => h) (fun _ _ _ => trivial) (by kernel_rfl) ?_ (by assumption) ?_
                rotate_left
                · (intro w hSw; (try dsimp only at hSw); go_simp; (first | done | with_reducible rfl))
                simp only [Act.put, List.setIfInBounds_toArray, List.set_cons_zero, List.set_cons_succ]
                refine as_take (i := 5) (v := ?_) (some 67) (by kernel_rfl) rfl rfl (by kernel_rfl) (by kernel_rfl) (by kernel_rfl) (fun _ _ _ h => h) (fun _ _ _ => trivial) (by kernel_rfl) ?_ (by assumption) ?_
                rotate_left
                · (intro w hSw; (try dsimp only at hSw); go_simp; (first | done | with_reducible rfl))
                simp only [Act.put, List.setIfInBounds_toArray, List.set_cons_zero, List.set_cons_succ]
                refine as_two (i := 3) (j := 6) (by kernel_rfl) rfl rfl (fun K hK => ?_) (fun K hK => ?_)
                · go_simp
                  refine hK _ _ ⟨by exact hS0, ?_⟩
                  clear hK K
                  try simp only [Act.put, List.setIfInBounds_toArray, List.set_cons_zero, List.set_cons_succ]
                  refine as_one (i := 6) (by kernel_rfl) rfl (fun K hK => ?_)
                  go_simp
                  refine hK _ _ ⟨by exact hS0, ?_⟩
                  clear hK K
                  try simp only [Act.put, List.setIfInBounds_toArray, List.set_cons_zero, List.set_cons_succ]
                  refine as_take (i := 7) (v := ?_) (some 69) (by kernel_rfl) rfl rfl (by kernel_rfl) (by kernel_rfl) (by kernel_rfl) (fun _ _ _ h => h) (fun _ _ _ => trivial) (by kernel_rfl) ?_ (by assumption) ?_
                  rotate_left
                  · (intro w hSw; (try dsimp only at hSw); go_simp; (first | done | with_reducible rfl))
                  simp only [Act.put, List.setIfInBounds_toArray, List.set_cons_zero, List.set_cons_succ]
                  refine as_take (i := 8) (v := ?_) (some 70) (by kernel_rfl) rfl rfl (by kernel_rfl) (by kernel_rfl) (by kernel_rfl) (fun _ _ _ h => h) (fun _ _ _ => trivial) (by kernel_rfl) ?_ (by assumption) ?_
                  rotate_left
                  · (intro w hSw; (try dsimp only at hSw); go_simp; (first | done | with_reducible rfl))
                  simp only [Act.put, List.setIfInBounds_toArray, List.set_cons_zero, List.set_cons_succ]
                  refine as_one (i := 9) (by kernel_rfl) rfl (fun K hK => ?_)
                  go_simp
                  refine hK _ _ ⟨by exact cell_far hql2 hS0, ?_⟩
                  clear hK K
                  try simp only [Act.put, List.setIfInBounds_toArray, List.set_cons_zero, List.set_cons_succ]
                  refine as_done (by kernel_rfl) ?_ _
                  exact fin20 t256 (by omega) hlq (by omega) (by omega) HIO.out HAa.out HBb.out rfl
                · go_simp
                  refine hK _ _ ⟨by exact hS0, ?_⟩
                  clear hK K
                  try simp only [Act.put, List.setIfInBounds_toArray, List.set_cons_zero, List.set_cons_succ]
                  refine as_one (i := 3) (by kernel_rfl) rfl (fun K hK => ?_)
                  go_simp
                  refine hK _ _ ⟨by exact hS0, ?_⟩
                  clear hK K
                  try simp only [Act.put, List.setIfInBounds_toArray, List.set_cons_zero, List.set_cons_succ]
                  refine as_take (i := 7) (v := ?_) (some 69) (by kernel_rfl) rfl rfl (by kernel_rfl) (by kernel_rfl) (by kernel_rfl) (fun _ _ _ h => h) (fun _ _ _ => trivial) (by kernel_rfl) ?_ (by assumption) ?_
                  rotate_left
                  · (intro w hSw; (try dsimp only at hSw); go_simp; (first | done | with_reducible rfl))
                  simp only [Act.put, List.setIfInBounds_toArray, List.set_cons_zero, List.set_cons_succ]
                  refine as_take (i := 8) (v := ?_) (some 70) (by kernel_rfl) rfl rfl (by kernel_rfl) (by kernel_rfl) (by kernel_rfl) (fun _ _ _ h => h) (fun _ _ _ => trivial) (by kernel_rfl) ?_ (by assumption) ?_
                  rotate_left
                  · (intro w hSw; (try dsimp only at hSw); go_simp; (first | done | with_reducible rfl))
                  simp only [Act.put, List.setIfInBounds_toArray, List.set_cons_zero, List.set_cons_succ]
                  refine as_one (i := 9) (by kernel_rfl) rfl (fun K hK => ?_)
                  go_simp
                  refine hK _ _ ⟨by exact cell_far hql2 hS0, ?_⟩
                  clear hK K
                  try simp only [Act.put, List.setIfInBounds_toArray, List.set_cons_zero, List.set_cons_succ]
                  refine as_done (by kernel_rfl) ?_ _
                  exact fin20 t256 (by omega) hlq (by omega) (by omega) HIO.out HAa.out HBb.out rfl
              · rw [show bv false = 0 from rfl] at zt
                rw [show bv true = 1 from rfl] at zy
                gi_wp2
                refine region_S (fun w' : World => w'.cell? ⟨q, 0, none⟩ = some (.int .i64 (t : Int))) (by kernel_rfl) (by exact z0) (fun hS0 => ?_)
                refine as_take (i := 0) (v := ?_) (some 62) (by kernel_rfl) rfl rfl (by kernel_rfl) (by kernel_rfl) (by kernel_rfl) (fun _ _ _ h => h) (fun _ _ _ => trivial) (by kernel_rfl) ?_ (by assumption) ?_
                rotate_left
                · (intro w hSw; (try dsimp only at hSw); go_simp; (first | done | with_reducible rfl))
                simp only [Act.put, List.setIfInBounds_toArray, List.set_cons_zero, List.set_cons_succ]
                refine as_take (i := 1) (v := ?_) (some 63) (by kernel_rfl) rfl rfl (by kernel_rfl) (by kernel_rfl) (by kernel_rfl) (fun _ _ _ h => h) (fun _ _ _ => trivial) (by kernel_rfl) ?_ (by assumption) ?_
                rotate_left
                · (intro w hSw; (try dsimp only at hSw); go_simp; (first | done | with_reducible rfl))
                simp only [Act.put, List.setIfInBounds_toArray, List.set_cons_zero, List.set_cons_succ]
                refine as_take (i := 2) (v := ?_) (some 64) (by kernel_rfl) rfl rfl (by kernel_rfl) (by kernel_rfl) (by kernel_rfl) (fun _ _ _ h => h) (fun _ _ _ => trivial) (by kernel_rfl) ?_ (by assumption) ?_
                rotate_left
                · (intro w hSw; (try dsimp only at hSw); go_simp; (first | done | with_reducible rfl))
                simp only [Act.put, List.setIfInBounds_toArray, List.set_cons_zero, List.set_cons_succ]
                refine as_take (i := 4) (v := ?_) (some 66) (by kernel_rfl) rfl rfl (by kernel_rfl) (by kernel_rfl) (by kernel_rfl) (fun _ _ _ h => h) (fun _ _ _ => trivial) (by kernel_rfl) ?_ (by assumption) ?_
                rotate_left
                · (intro w hSw; (try dsimp only at hSw); go_simp; (first | done | with_reducible rfl))
                simp only [Act.put, List.setIfInBounds_toArray, List.set_cons_zero, List.set_cons_succ]
                refine as_take (i := 5) (v := ?_) (some 67) (by kernel_rfl) rfl rfl (by kernel_rfl) (by kernel_rfl) (by kernel_rfl) (fun _ _ _ h => h) (fun _ _ _ => trivial) (by kernel_rfl) ?_ (by assumption) ?_
                rotate_left
                · (intro w hSw; (try dsimp only at hSw); go_simp; (first | done | with_reducible rfl))
                simp only [Act.put, List.setIfInBounds_toArray, List.set_cons_zero, List.set_cons_succ]
                refine as_two (i := 3) (j := 6) (by kernel_rfl) rfl rfl (fun K hK => ?_) (fun K hK => ?_)
                · go_simp
                  refine hK _ _ ⟨by exact hS0, ?_⟩
                  clear hK K
                  try simp only [Act.put, List.setIfInBounds_toArray, List.set_cons_zero, List.set_cons_succ]
                  refine as_one (i := 6) (by kernel_rfl) rfl (fun K hK => ?_)
                  go_simp
                  refine hK _ _ ⟨by exact hS0, ?_⟩
                  clear hK K
                  try simp only [Act.put, List.setIfInBounds_toArray, List.set_cons_zero, List.set_cons_succ]
                  refine as_take (i := 7) (v := ?_) (some 69) (by kernel_rfl) rfl rfl (by kernel_rfl) (by kernel_rfl) (by kernel_rfl) (fun _ _ _ h => h) (fun _ _ _ => trivial) (by kernel_rfl) ?_ (by assumption) ?_
                  rotate_left
                  · (intro w hSw; (try dsimp only at hSw); go_simp; (first | done | with_reducible rfl))
                  simp only [Act.put, List.setIfInBounds_toArray, List.set_cons_zero, List.set_cons_succ]
                  refine as_take (i := 8) (v := ?_) (some 70) (by kernel_rfl) rfl rfl (by kernel_rfl) (by kernel_rfl) (by kernel_rfl) (fun _ _ _ h => h) (fun _ _ _ => trivial) (by kernel_rfl) ?_ (by assumption) ?_
                  rotate_left
                  · (intro w hSw; (try dsimp only at hSw); go_simp; (first | done | with_reducible rfl))
                  simp only [Act.put, List.setIfInBounds_toArray, List.set_cons_zero, List.set_cons_succ]
                  refine as_one (i := 9) (by kernel_rfl) rfl (fun K hK => ?_)
                  go_simp
                  refine hK _ _ ⟨by exact cell_far hql2 hS0, ?_⟩
                  clear hK K
                  try simp only [Act.put, List.setIfInBounds_toArray, List.set_cons_zero, List.set_cons_succ]
                  refine as_done (by kernel_rfl) ?_ _
                  exact fin20 t256 (by omega) hlq (by omega) (by omega) HIO.out HAa.out HBb.out rfl
                · go_simp
                  refine hK _ _ ⟨by exact hS0, ?_⟩
                  clear hK K
                  try simp only [Act.put, List.setIfInBounds_toArray, List.set_cons_zero, List.set_cons_succ]
                  refine as_one (i := 3) (by kernel_rfl) rfl (fun K hK => ?_)
                  go_simp
                  refine hK _ _ ⟨by exact hS0, ?_⟩
                  clear hK K
                  try simp only [Act.put, List.setIfInBounds_toArray, List.set_cons_zero, List.set_cons_succ]
                  refine as_take (i := 7) (v := ?_) (some 69) (by kernel_rfl) rfl rfl (by kernel_rfl) (by kernel_rfl) (by kernel_rfl) (fun _ _ _ h => h) (fun _ _ _ => trivial) (by kernel_rfl) ?_ (by assumption) ?_
                  rotate_left
                  · (intro w hSw; (try dsimp only at hSw); go_simp; (first | done | with_reducible rfl))
                  simp only [Act.put, List.setIfInBounds_toArray, List.set_cons_zero, List.set_cons_succ]
                  refine as_take (i := 8) (v := ?_) (some 70) (by kernel_rfl) rfl rfl (by kernel_rfl) (by kernel_rfl) (by kernel_rfl) (fun _ _ _ h => h) (fun _ _ _ => trivial) (by kernel_rfl) ?_ (by assumption) ?_
                  rotate_left
                  · (intro w hSw; (try dsimp only at hSw); go_simp; (first | done | with_reducible rfl))
                  simp only [Act.put, List.setIfInBounds_toArray, List.set_cons_zero, List.set_cons_succ]
                  refine as_one (i := 9) (by kernel_rfl) rfl (fun K hK => ?_)
                  go_simp
                  refine hK _ _ ⟨by exact cell_far hql2 hS0, ?_⟩
                  clear hK K
                  try simp only [Act.put, List.setIfInBounds_toArray, List.set_cons_zero, List.set_cons_succ]
                  refine as_done (by kernel_rfl) ?_ _
                  exact fin20 t256 (by omega) hlq (by omega) (by omega) HIO.out HAa.out HBb.out rfl
              · rw [show bv true = 1 from rfl] at zt
                rw [show bv false = 0 from rfl] at zy
                gi_wp2
                refine region_S (fun w' : World => w'.cell? ⟨q, 0, none⟩ = some (.int .i64 (t : Int))) (by kernel_rfl) (by exact z0) (fun hS0 => ?_)
                refine as_take (i := 0) (v := ?_) (some 62) (by kernel_rfl) rfl rfl (by kernel_rfl) (by kernel_rfl) (by kernel_rfl) (fun _ _ _ h => h) (fun _ _ _ => trivial) (by kernel_rfl) ?_ (by assumption) ?_
                rotate_left
                · (intro w hSw; (try dsimp only at hSw); go_simp; (first | done | with_reducible rfl))
                simp only [Act.put, List.setIfInBounds_toArray, List.set_cons_zero, List.set_cons_succ]
                refine as_take (i := 1) (v := ?_) (some 63) (by kernel_rfl) rfl rfl (by kernel_rfl) (by kernel_rfl) (by kernel_rfl) (fun _ _ _ h => h) (fun _ _ _ => trivial) (by kernel_rfl) ?_ (by assumption) ?_
                rotate_left
                · (intro w hSw; (try dsimp only at hSw); go_simp; (first | done | with_reducible rfl))
                simp only [Act.put, List.setIfInBounds_toArray, List.set_cons_zero, List.set_cons_succ]
                refine as_take (i := 2) (v := ?_) (some 64) (by kernel_rfl) rfl rfl (by kernel_rfl) (by kernel_rfl) (by kernel_rfl) (fun _ _ _ h => h) (fun _ _ _ => trivial) (by kernel_rfl) ?_ (by assumption) ?_
                rotate_left
                · (intro w hSw; (try dsimp only at hSw); go_simp; (first | done | with_reducible rfl))
                simp only [Act.put, List.setIfInBounds_toArray, List.set_cons_zero, List.set_cons_succ]
                refine as_take (i := 4) (v := ?_) (some 66) (by kernel_rfl) rfl rfl (by kernel_rfl) (by kernel_rfl) (by kernel_rfl) (fun _ _ _ h => h) (fun _ _ _ => trivial) (by kernel_rfl) ?_ (by assumption) ?_
                rotate_left
                · (intro w hSw; (try dsimp only at hSw); go_simp; (first | done | with_reducible rfl))
                simp only [Act.put, List.setIfInBounds_toArray, List.set_cons_zero, List.set_cons_succ]
                refine as_take (i := 5) (v := ?_) (some 67) (by kernel_rfl) rfl rfl (by kernel_rfl) (by kernel_rfl) (by kernel_rfl) (fun _ _ _ h => h) (fun _ _ _ => trivial) (by kernel_rfl) ?_ (by assumption) ?_
                rotate_left
                · (intro w hSw; (try dsimp only at hSw); go_simp; (first | done | with_reducible rfl))
                simp only [Act.put, List.setIfInBounds_toArray, List.set_cons_zero, List.set_cons_succ]
                refine as_two (i := 3) (j := 6) (by kernel_rfl) rfl rfl (fun K hK => ?_) (fun K hK => ?_)
                · go_simp
                  refine hK _ _ ⟨by exact hS0, ?_⟩
                  clear hK K
                  try simp only [Act.put, List.setIfInBounds_toArray, List.set_cons_zero, List.set_cons_succ]
                  refine as_one (i := 6) (by kernel_rfl) rfl (fun K hK => ?_)
                  go_simp
                  refine hK _ _ ⟨by exact hS0, ?_⟩
                  clear hK K
                  try simp only [Act.put, List.setIfInBounds_toArray, List.set_cons_zero, List.set_cons_succ]
                  refine as_take (i := 7) (v := ?_) (some 69) (by kernel_rfl) rfl rfl (by kernel_rfl) (by kernel_rfl) (by kernel_rfl) (fun _ _ _ h => h) (fun _ _ _ => trivial) (by kernel_rfl) ?_ (by assumption) ?_
                  rotate_left
                  · (intro w hSw; (try dsimp only at hSw); go_simp; (first | done | with_reducible rfl))
                  simp only [Act.put, List.setIfInBounds_toArray, List.set_cons_zero, List.set_cons_succ]
                  refine as_take (i := 8) (v := ?_) (some 70) (by kernel_rfl) rfl rfl (by kernel_rfl) (by kernel_rfl) (by kernel_rfl) (fun _ _ _ h => h) (fun _ _ _ => trivial) (by kernel_rfl) ?_ (by assumption) ?_
                  rotate_left
                  · (intro w hSw; (try dsimp only at hSw); go_simp; (first | done | with_reducible rfl))
                  simp only [Act.put, List.setIfInBounds_toArray, List.set_cons_zero, List.set_cons_succ]
                  refine as_one (i := 9) (by kernel_rfl) rfl (fun K hK => ?_)
                  go_simp
                  refine hK _ _ ⟨by exact cell_far hql2 hS0, ?_⟩
                  clear hK K
                  try simp only [Act.put, List.setIfInBounds_toArray, List.set_cons_zero, List.set_cons_succ]
                  refine as_done (by kernel_rfl) ?_ _
                  exact fin20 t256 (by omega) hlq (by omega) (by omega) HIO.out HAa.out HBb.out rfl
                · go_simp
                  refine hK _ _ ⟨by exact hS0, ?_⟩
                  clear hK K
                  try simp only [Act.put, List.setIfInBounds_toArray, List.set_cons_zero, List.set_cons_succ]
                  refine as_one (i := 3) (by kernel_rfl) rfl (fun K hK => ?_)
                  go_simp
                  refine hK _ _ ⟨by exact hS0, ?_⟩
                  clear hK K
                  try simp only [Act.put, List.setIfInBounds_toArray, List.set_cons_zero, List.set_cons_succ]
                  refine as_take (i := 7) (v := ?_) (some 69) (by kernel_rfl) rfl rfl (by kernel_rfl) (by kernel_rfl) (by kernel_rfl) (fun _ _ _ h => h) (fun _ _ _ => trivial) (by kernel_rfl) ?_ (by assumption) ?_
                  rotate_left
                  · (intro w hSw; (try dsimp only at hSw); go_simp; (first | done | with_reducible rfl))
                  simp only [Act.put, List.setIfInBounds_toArray, List.set_cons_zero, List.set_cons_succ]
                  refine as_take (i := 8) (v := ?_) (some 70) (by kernel_rfl) rfl rfl (by kernel_rfl) (by kernel_rfl) (by kernel_rfl) (fun _ _ _ h => h) (fun _ _ _ => trivial) (by kernel_rfl) ?_ (by assumption) ?_
                  rotate_left
                  · (intro w hSw; (try dsimp only at hSw); go_simp; (first | done | with_reducible rfl))
                  simp only [Act.put, List.setIfInBounds_toArray, List.set_cons_zero, List.set_cons_succ]
                  refine as_one (i := 9) (by kernel_rfl) rfl (fun K hK => ?_)
                  go_simp
                  refine hK _ _ ⟨by exact cell_far hql2 hS0, ?_⟩
                  clear hK K
                  try simp only [Act.put, List.setIfInBounds_toArray, List.set_cons_zero, List.set_cons_succ]
                  refine as_done (by kernel_rfl) ?_ _
                  exact fin20 t256 (by omega) hlq (by omega) (by omega) HIO.out HAa.out HBb.out rfl
              · rw [show bv true = 1 from rfl] at zt
                rw [show bv true = 1 from rfl] at zy
                gi_wp2
                refine region_S (fun w' : World => w'.cell? ⟨q, 0, none⟩ = some (.int .i64 (t : Int))) (by kernel_rfl) (by exact z0) (fun hS0 => ?_)
                refine as_take (i := 0) (v := ?_) (some 62) (by kernel_rfl) rfl rfl (by kernel_rfl) (by kernel_rfl) (by kernel_rfl) (fun _ _ _ h => h) (fun _ _ _ => trivial) (by kernel_rfl) ?_ (by assumption) ?_
                rotate_left
                · (intro w hSw; (try dsimp only at hSw); go_simp; (first | done | with_reducible rfl))
                simp only [Act.put, List.setIfInBounds_toArray, List.set_cons_zero, List.set_cons_succ]
                refine as_take (i := 1) (v := ?_) (some 63) (by kernel_rfl) rfl rfl (by kernel_rfl) (by kernel_rfl) (by kernel_rfl) (fun _ _ _ h => h) (fun _ _ _ => trivial) (by kernel_rfl) ?_ (by assumption) ?_
                rotate_left
                · (intro w hSw; (try dsimp only at hSw); go_simp; (first | done | with_reducible rfl))
                simp only [Act.put, List.setIfInBounds_toArray, List.set_cons_zero, List.set_cons_succ]
                refine as_take (i := 2) (v := ?_) (some 64) (by kernel_rfl) rfl rfl (by kernel_rfl) (by kernel_rfl) (by kernel_rfl) (fun _ _ _ h => h) (fun _ _ _ => trivial) (by kernel_rfl) ?_ (by assumption) ?_
                rotate_left
                · (intro w hSw; (try dsimp only at hSw); go_simp; (first | done | with_reducible rfl))
                simp only [Act.put, List.setIfInBounds_toArray, List.set_cons_zero, List.set_cons_succ]
                refine as_take (i := 4) (v := ?_) (some 66) (by kernel_rfl) rfl rfl (by kernel_rfl) (by kernel_rfl) (by kernel_rfl) (fun _ _ _ h => h) (fun _ _ _ => trivial) (by kernel_rfl) ?_ (by assumption) ?_
                rotate_left
                · (intro w hSw; (try dsimp only at hSw); go_simp; (first | done | with_reducible rfl))
                simp only [Act.put, List.setIfInBounds_toArray, List.set_cons_zero, List.set_cons_succ]
                refine as_take (i := 5) (v := ?_) (some 67) (by kernel_rfl) rfl rfl (by kernel_rfl) (by kernel_rfl) (by kernel_rfl) (fun _ _ _ h => h) (fun _ _ _ => trivial) (by kernel_rfl) ?_ (by assumption) ?_
                rotate_left
                · (intro w hSw; (try dsimp only at hSw); go_simp; (first | done | with_reducible rfl))
                simp only [Act.put, List.setIfInBounds_toArray, List.set_cons_zero, List.set_cons_succ]
                refine as_two (i := 3) (j := 6) (by kernel_rfl) rfl rfl (fun K hK => ?_) (fun K hK => ?_)
                · go_simp
                  refine hK _ _ ⟨by exact hS0, ?_⟩
                  clear hK K
                  try simp only [Act.put, List.setIfInBounds_toArray, List.set_cons_zero, List.set_cons_succ]
                  refine as_one (i := 6) (by kernel_rfl) rfl (fun K hK => ?_)
                  go_simp
                  refine hK _ _ ⟨by exact hS0, ?_⟩
                  clear hK K
                  try simp only [Act.put, List.setIfInBounds_toArray, List.set_cons_zero, List.set_cons_succ]
                  refine as_take (i := 7) (v := ?_) (some 69) (by kernel_rfl) rfl rfl (by kernel_rfl) (by kernel_rfl) (by kernel_rfl) (fun _ _ _ h => h) (fun _ _ _ => trivial) (by kernel_rfl) ?_ (by assumption) ?_
                  rotate_left
                  · (intro w hSw; (try dsimp only at hSw); go_simp; (first | done | with_reducible rfl))
                  simp only [Act.put, List.setIfInBounds_toArray, List.set_cons_zero, List.set_cons_succ]
                  refine as_take (i := 8) (v := ?_) (some 70) (by kernel_rfl) rfl rfl (by kernel_rfl) (by kernel_rfl) (by kernel_rfl) (fun _ _ _ h => h) (fun _ _ _ => trivial) (by kernel_rfl) ?_ (by assumption) ?_
                  rotate_left
                  · (intro w hSw; (try dsimp only at hSw); go_simp; (first | done | with_reducible rfl))
                  simp only [Act.put, List.setIfInBounds_toArray, List.set_cons_zero, List.set_cons_succ]
                  refine as_one (i := 9) (by kernel_rfl) rfl (fun K hK => ?_)
                  go_simp
                  refine hK _ _ ⟨by exact cell_far hql2 hS0, ?_⟩
                  clear hK K
                  try simp only [Act.put, List.setIfInBounds_toArray, List.set_cons_zero, List.set_cons_succ]
                  refine as_done (by kernel_rfl) ?_ _
                  exact fin20 t256 (by omega) hlq (by omega) (by omega) HIO.out HAa.out HBb.out rfl
                · go_simp
                  refine hK _ _ ⟨by exact hS0, ?_⟩
                  clear hK K
                  try simp only [Act.put, List.setIfInBounds_toArray, List.set_cons_zero, List.set_cons_succ]
                  refine as_one (i := 3) (by kernel_rfl) rfl (fun K hK => ?_)
                  go_simp
                  refine hK _ _ ⟨by exact hS0, ?_⟩
                  clear hK K
                  try simp only [Act.put, List.setIfInBounds_toArray, List.set_cons_zero, List.set_cons_succ]
                  refine as_take (i := 7) (v := ?_) (some 69) (by kernel_rfl) rfl rfl (by kernel_rfl) (by kernel_rfl) (by kernel_rfl) (fun _ _ _ h => h) (fun _ _ _ => trivial) (by kernel_rfl) ?_ (by assumption) ?_
                  rotate_left
                  · (intro w hSw; (try dsimp only at hSw); go_simp; (first | done | with_reducible rfl))
                  simp only [Act.put, List.setIfInBounds_toArray, List.set_cons_zero, List.set_cons_succ]
                  refine as_take (i := 8) (v := ?_) (some 70) (by kernel_rfl) rfl rfl (by kernel_rfl) (by kernel_rfl) (by kernel_rfl) (fun _ _ _ h => h) (fun _ _ _ => trivial) (by kernel_rfl) ?_ (by assumption) ?_
                  rotate_left
                  · (intro w hSw; (try dsimp only at hSw); go_simp; (first | done | with_reducible rfl))
                  simp only [Act.put, List.setIfInBounds_toArray, List.set_cons_zero, List.set_cons_succ]
                  refine as_one (i := 9) (by kernel_rfl) rfl (fun K hK => ?_)
                  go_simp
                  refine hK _ _ ⟨by exact cell_far hql2 hS0, ?_⟩
                  clear hK K
                  try simp only [Act.put, List.setIfInBounds_toArray, List.set_cons_zero, List.set_cons_succ]
                  refine as_done (by kernel_rfl) ?_ _
                  exact fin20 t256 (by omega) hlq (by omega) (by omega) HIO.out HAa.out HBb.out rfl
            case done =>
              rintro D xs W hD hSx ⟨h1, h2, h3, h4, h5⟩ hK
              have hSx : xs = elsS m Rw k S T t k := hSx
              have hA := h1.congr (f' := ld m Rw k S T gg (c + 1)) (fun b _ => by
                show _ = (if b = gg - c then ld m Rw k S T gg c b || (elsS m Rw k S T (gg - c) k).any (fun x => ld m Rw k S T gg c x.2) else ld m Rw k S T gg c b)
                rw [← HTG.out, hSx]
                by_cases e : b = t
                · subst e; simp
                · simp [e])
              have hP := Lib.hid (HKd.out.push (args := #[]) hD (by have := HSD.out; omega) h5 hK)
              have z0 : W.cell? ⟨q, 0, none⟩ = some (.int .i64 (t : Int)) := h3.cell 0
              have HA' := Lib.hid hA
              have hws := h4.size
              have hlw := h1.1
              clear h1 hSx hA h5 hK
              gi_wp2
              refine ⟨?rel, ?measure⟩
              case rel =>
                repeat apply Exists.intro
                exact ⟨⟨W.heap.size, c + 1, (t : Int) - 1, by omega, rfl, by have := HV.out; omega, Blk.made _ _ _, by omega, HA'.out.of_block (Below.heap_alloc _ _ _ hlw), h2.alloc _, h4.alloc hws _, hP.out.below ((Below.refl _ _).alloc (Nat.le_refl _) _), by simp [hlen]⟩, rfl⟩
              case measure => simp [hlen]; omega
            case stop =>
              rintro D c pre W hD _ h _
              exact h.elim
          · obtain rfl : c = gg + 1 := by omega
            obtain rfl : v = -1 := by omega
            have z0 : wr.cell? ⟨q, 0, none⟩ = some (.int .i64 (-1)) := hq.cell 0
            have HA := Lib.hid ha
            have HB := Lib.hid hb
            have KRr := Lib.hid kr
            have HK := Lib.hid hmk
            have HLD : Hid (∀ b, ld m Rw k S T gg (gg + 1) b = lead m Rw k S T b) := Lib.hid (fun b => by unfold lead; rw [HG.out])
            have hlq2 := hq.lt
            clear ha hb hq kr hmk hv hlen
            gi_wp2_with fail
            clear z0
            rename World => wo
            refine wpIn_loop (fun a' wr => ∃ (u15 u16 u17 u18 u19 u72 u73 u74 u75 u76 u77 u78 u79 u80 u81 u82 u83 u84 u85 u86 u87 u88 u89 u90 u91 u92 u93 u94 : Value) (es : List Deferred), (∃ (p : List Nat) (b : Nat), b < 256 ∧ p.length ≤ b ∧ u16 = .int .i64 (b : Int) ∧ Gp m Rw k S T p b ∧ wr.ownsRow (lb + 1) 3 1 u15 p.length (nV p) ∧ Arr wr lb (lead m Rw k S T) ∧ Blk wr w.heap.size 56 #[.slice A1 k c1, .slice A2 k c2, .slice A3 m c3] ∧ Below w.heap.size w wr ∧ Marks w.heap.size es wr) ∧ a' = { tmps := #[.slice A3 m c3, .slice A1 k c1, .slice A2 k c2, undef, undef, undef, .slice none 0 0, .int .i64 0, .pointer (some ⟨w.heap.size, 0, none⟩), .int .i64 (gg : Int), u10, .pointer (some ⟨lb, 0, none⟩), .pointer (some ⟨q, 0, none⟩), undef, u14, u15, u16, u17, u18, u19, .slice A1 k c1, .slice A2 k c2, .slice A3 m c3, .agg #[.slice A1 k c1, .slice A2 k c2, .slice A3 m c3], .agg #[.slice A1 k c1, .slice A2 k c2, .slice A3 m c3], .bool true, .bool false, .slice A1 k c1, .int .i64 (k : Int), .int .i64 (k : Int), .bool false, u31, u32, u33, u34, u35, u36, u37, u38, u39, u40, u41, u42, u43, u44, u45, .slice A3 m c3, .slice A1 k c1, .bool true, .bool false, .int .i64 (gg : Int), .pointer (some ⟨lb, gg, none⟩), .int .i64 (gg : Int), .int .i64 (-1), .bool false, u55, u56, u57, u58, u59, u60, u61, u62, u63, u64, u65, u66, u67, u68, u69, u70, u71, u72, u73, u74, u75, u76, u77, u78, u79, u80, u81, u82, u83, u84, u85, u86, u87, u88, u89, u90, u91, u92, u93, u94, undef], defers := es })
              (fun a' _ => (256 - intOf (a'.tmps.getD 16 undef)).toNat) ?_ ?_
            · exact ⟨_, _, _, _, _, _, _, _, _, _, _, _, _, _, _, _, _, _, _, _, _, _, _, _, _, _, _, _, ds, ⟨[], 0, by omega, Nat.le_refl _, rfl, .start, World.ownsRow_nil _ _ _ _, HA.out.congr (fun b _ => HLD.out b), HB.out, KRr.out, HK.out⟩, rfl⟩
            · rintro a' wr ⟨u15, u16, u17, u18, u19, u72, u73, u74, u75, u76, u77, u78, u79, u80, u81, u82, u83, u84, u85, u86, u87, u88, u89, u90, u91, u92, u93, u94, es, ⟨p, b, hb256, hpl, rfl, hgp, hrow, ha, hb, kr, hmk⟩, rfl⟩
              try dsimp only
              have HA := Lib.hid ha
              have HB := Lib.hid hb
              have KRr := Lib.hid kr
              have HK := Lib.hid hmk
              have HGP := Lib.hid hgp
              have HROW := Lib.hid hrow
              clear ha hb kr hmk hgp hrow
              by_cases hbg : b = gg
              · subst hbg
                gi_wp2_with fail
                obtain ⟨Ar, cr, rfl, hnums⟩ := own_nums HROW.out
                have HN := Lib.hid hnums
                clear hnums
                refine marks_leave (B := w.heap.size) es _ HK.out (fun W' hs => ⟨_, res_two rfl, ?_⟩)
                exact ⟨KRr.out.trans hs.1, .inr ⟨HOK.out, .inl ⟨p, by rw [HG.out]; exact HGP.out, Ar, cr, rfl, HN.out.spent hs⟩⟩⟩
              · have yb0 : wr.cell? ⟨w.heap.size, 0, none⟩ = some (.slice A1 k c1) := HB.out.cell 0
                have yb1 : wr.cell? ⟨w.heap.size, 1, none⟩ = some (.slice A2 k c2) := HB.out.cell 1
                have yb2 : wr.cell? ⟨w.heap.size, 2, none⟩ = some (.slice A3 m c3) := HB.out.cell 2
                have hbg' : (b == gg) = false := by simpa using hbg
                obtain ⟨wa, hwa⟩ : ∃ wa, wr.alloc (.cells #[.int .i64 (-1)] 3) = wa := ⟨_, rfl⟩
                have ya0 : (wr.alloc (.cells #[.int .i64 (-1)] 3)).cell? ⟨w.heap.size, 0, none⟩ = some (.slice A1 k c1) := cell_alloc' yb0 _
                have ya1 : (wr.alloc (.cells #[.int .i64 (-1)] 3)).cell? ⟨w.heap.size, 1, none⟩ = some (.slice A2 k c2) := cell_alloc' yb1 _
                have ya2 : (wr.alloc (.cells #[.int .i64 (-1)] 3)).cell? ⟨w.heap.size, 2, none⟩ = some (.slice A3 m c3) := cell_alloc' yb2 _
                have QA := Lib.hid (show Blk wa wr.heap.size 3 #[.int .i64 (-1)] from by rw [← hwa]; exact Blk.made _ _ _)
                have KA := Lib.hid (show Below wr.heap.size wr wa from by rw [← hwa]; exact (Below.refl _ _).alloc (Nat.le_refl _) _)
                have hsa : wa.heap.size = wr.heap.size + 1 := by rw [← hwa]; simp
                have HSA := Lib.hid hsa
                have HWA := Lib.hid hwa
                clear hsa hwa
                gi_wp2_with fail
                rw [HWA.out]
                clear yb0 yb1 yb2 ya0 ya1 ya2
                refine ⟨trivial, ?_⟩
                refine (callsIn_wide.2 (steps_any #[.slice A1 k c1, .slice A2 k c2, .slice A3 m c3] (b : Int) wa rfl)).mono ?_
                rintro e wd ⟨rfl, hwd⟩
                rw [HSA.out]
                have g1b : Blk wd (wr.heap.size + 1) 56 #[.slice A1 k c1, .slice A2 k c2, .slice A3 m c3] := by rw [← hwd, ← HSA.out]; exact (Blk.made _ _ _).alloc _
                have g2b : Blk wd (wr.heap.size + 1 + 1) 3 #[.int .i64 (b : Int)] := by rw [← hwd, ← HSA.out]; exact Blk.made_at _ _ _ (by simp)
                have qad : Blk wd wr.heap.size 3 #[.int .i64 (-1)] := by rw [← hwd]; exact (QA.out.alloc _).alloc _
                have hsd : wd.heap.size = wr.heap.size + 1 + 1 + 1 := by rw [← hwd]; simp [HSA.out]
                have kd : Below wr.heap.size wr wd := by rw [← hwd]; exact (KA.out.alloc KA.out.size _).alloc (by have := KA.out.size; simp; omega) _
                have QAD := Lib.hid qad
                have KD := Lib.hid kd
                have G1 := Lib.hid g1b
                have G2 := Lib.hid g2b
                have HSD := Lib.hid hsd
                have hsw := KRr.out.size
                have gk1 := gk
                clear hwd kd hsd qad
                gi_wp2_with fail
                have hlq4 := HA.out.1
                have hagd : Agree w.heap.size w wd := ⟨Nat.le_trans hsw KD.out.size, fun j hj => (KD.out.block j (Nat.lt_of_lt_of_le hj hsw)).trans (KRr.out.block j hj)⟩
                have HAG := Lib.hid hagd
                clear hagd
                have hfseq : SeqR Fence.wide 4 Try.prog 42 #[.pointer (some ⟨wr.heap.size + 1, 0, none⟩), .pointer (some ⟨wr.heap.size + 1 + 1, 0, none⟩)] encs (KpI w.heap.size (wr.heap.size + 1) (wr.heap.size + 1 + 1)) RI (ZI w (wr.heap.size + 1) (wr.heap.size + 1 + 1) #[.slice A1 k c1, .slice A2 k c2, .slice A3 m c3] b) (OkI m Rw k S T b) (SI m Rw k S T b) (SpI m Rw k S T b) 8 wd :=
                  fun l J0 Jx W hW hJ _ hZ hY h0 => steps1 4 l (wr.heap.size + 1) (wr.heap.size + 1 + 1) A1 A2 A3 k c1 c2 m c3 b S T Rw w HS.out HT.out HR.out h8 hb256 HM.out J0 Jx hJ hZ W (g1b.below hW g1b.lt) (g2b.below hW g2b.lt)
                    ⟨Nat.le_trans HAG.out.1 hW.size, fun j hj => (hW.block j (Nat.lt_of_lt_of_le hj HAG.out.1)).trans (HAG.out.2 j hj)⟩ (by omega) hY h0
                refine wpIn_rangeFunc_R rfl (by omega) (gf := 42) (lb := #[.pointer (some ⟨wr.heap.size + 1, 0, none⟩), .pointer (some ⟨wr.heap.size + 1 + 1, 0, none⟩)]) rfl trivial (enters_of Try.func42 (by kernel_rfl) rfl)
                  hfseq (fun X Y h l h1 h2 => h.block l h2)
                  (fun h k => ⟨Nat.le_trans h.1 k.1, fun j hj => (k.2 j hj).trans (h.2 j hj)⟩)
                  (fun W l o o' hl ho _ _ => ⟨by simp, fun k hk => World.putObj_heap_other (by have := HSD.out; omega)⟩) (Below.refl _ _) (fun _ => rfl)
                  (IP wr #[.slice A1 k c1, .slice A2 k c2, .slice A3 m c3] b (lead m Rw k S T)) (IQ wr #[.slice A1 k c1, .slice A2 k c2, .slice A3 m c3] b (lead m Rw k S T)) (IP_own (by have := HSD.out; omega)) (fun c => IQ_own (by have := HSD.out; omega)) IP_R IQ_R
                  (IQ_Z ⟨hsw, KRr.out.block⟩)
                  ⟨fun _ h => (by cases h), KD.out, QAD.out, G1.out, G2.out⟩
                  (fun x => { tmps := #[.slice A3 m c3, .slice A1 k c1, .slice A2 k c2, undef, undef, undef, .slice none 0 0, .int .i64 0, .pointer (some ⟨w.heap.size, 0, none⟩), .int .i64 (gg : Int), u10, .pointer (some ⟨lb, 0, none⟩), .pointer (some ⟨q, 0, none⟩), undef, u14, u15, .int .i64 (b : Int), .pointer (some ⟨wr.heap.size, 0, none⟩), .int .i64 (x.1 : Int), .int .i64 (x.2 : Int), .slice A1 k c1, .slice A2 k c2, .slice A3 m c3, .agg #[.slice A1 k c1, .slice A2 k c2, .slice A3 m c3], .agg #[.slice A1 k c1, .slice A2 k c2, .slice A3 m c3], .bool true, .bool false, .slice A1 k c1, .int .i64 (k : Int), .int .i64 (k : Int), .bool false, u31, u32, u33, u34, u35, u36, u37, u38, u39, u40, u41, u42, u43, u44, u45, .slice A3 m c3, .slice A1 k c1, .bool true, .bool false, .int .i64 (gg : Int), .pointer (some ⟨lb, gg, none⟩), .int .i64 (gg : Int), .int .i64 (-1), .bool false, u55, u56, u57, u58, u59, u60, u61, u62, u63, u64, u65, u66, u67, u68, u69, u70, u71, .int .i64 (b : Int), .int .i64 (gg : Int), .bool true, .agg #[.slice A1 k c1, .slice A2 k c2, .slice A3 m c3], .int .i64 (b : Int), .func (.func 42) #[] #[.pointer (some ⟨wr.heap.size + 1, 0, none⟩), .pointer (some ⟨wr.heap.size + 1 + 1, 0, none⟩)], .int .i64 (x.1 : Int), .int .i64 (x.2 : Int), u80, u81, u82, u83, u84, u85, u86, u87, u88, u89, u90, u91, u92, u93, u94, undef], defers := [] }) ?assign ?body ?done ?stop
                case assign =>
                  intro l x W K hK
                  gi_wp2
                  exact hK
                case body =>
                  rintro l pre ⟨i, y⟩ W ⟨hi1, hi2, hi3⟩ hIP hlen
                  replace hi3 : y = up b i := hi3
                  replace hi1 : i < k := hi1
                  have y256 : y < 256 := by rw [hi3]; exact up_lt hb256 (by omega)
                  clear hi1 hi2 hi3
                  have hal := HA.out.of_block (hIP.2.1.block _ hlq4)
                  have zy := (hal.2 y y256).1
                  have zf := (hal.2 y y256).2
                  have zq : W.cell? ⟨wr.heap.size, 0, none⟩ = some (.int .i64 (-1)) := hIP.2.2.1.cell 0
                  have zqf : W.frozen? ⟨wr.heap.size, 0, none⟩ = false := hIP.2.2.1.free 0
                  have hd0 : decide ((y : Int) < 0) = false := decide_eq_false (by omega)
                  have hd1 : decide (256 ≤ y) = false := decide_eq_false (by omega)
                  have hd5 : (y : Int) < 256 := by omega
                  have HIP := Lib.hid hIP
                  clear hIP hal
                  cases hle : lead m Rw k S T y with
                  | false =>
                    rw [hle, show bv false = 0 from rfl] at zy
                    have HLE := Lib.hid hle
                    clear hle
                    gi_wp2
                    exact ⟨KeepsOthers.refl _, ⟨Nat.le_refl _, fun _ _ => rfl⟩, HIP.out.more HLE.out⟩
                  | true =>
                    rw [hle, show bv true = 1 from rfl] at zy
                    have HLE := Lib.hid hle
                    clear hle
                    gi_wp2
                    exact ⟨KeepsOthers.setCell _ _ _, HIP.out.hit HLE.out⟩
                case done =>
                  rintro D xs W hD hSx hIP hK
                  have hSx : xs = elsS m Rw k S T b k := hSx
                  have hnx : nxt m Rw k S T b = none := nxt_none (by rw [← hSx]; exact hIP.1)
                  have hP := Lib.hid ((HK.out.below (Below.refl _ _)).push (args := #[]) (Nat.le_trans KD.out.size hD) (by have := HSD.out; omega) (HK.out.below hIP.2.1) hK)
                  have z0 : W.cell? ⟨wr.heap.size, 0, none⟩ = some (.int .i64 (-1)) := hIP.2.2.1.cell 0
                  have HNX := Lib.hid hnx
                  have HKB := Lib.hid (KRr.out.trans (hIP.2.1.mono hsw))
                  clear hSx hnx hIP hK
                  gi_wp2_with fail
                  refine marks_leave (B := w.heap.size) _ _ hP.out (fun W' hs => ⟨_, res_two rfl, ?_⟩)
                  exact ⟨HKB.out.trans hs.1, .inr ⟨HOK.out, .inr ⟨p, b, HGP.out, by rw [HG.out]; exact hbg, HNX.out, rfl⟩⟩⟩
                case stop =>
                  rintro D c pre W hD ⟨kk, hkk, hst, hpre⟩ ⟨rfl, ⟨p0, i, y, hp0, hall, hly, hq⟩, hkw, -, -⟩ hK
                  obtain ⟨hp1, hp2⟩ := List.append_inj' (hpre.symm.trans hp0) rfl
                  simp only [List.cons.injEq, Prod.mk.injEq, and_true] at hp2
                  obtain ⟨rfl, rfl⟩ := hp2
                  have hnx : nxt m Rw k S T b = some kk := nxt_some hkk hst (by rw [hp1]; exact hall) hly
                  have k8 : kk < 8 := by omega
                  have hu1 := up_lt hb256 k8
                  have hu2 := up_le hb256 k8
                  have hu3 : up b kk ≠ b := fun e => by
                    have := (up_same hb256 k8).1 e
                    simp [stp, this] at hst
                  have hP := Lib.hid ((HK.out.below ((Below.refl _ _))).push (args := #[]) (Nat.le_trans KD.out.size hD) (by have := HSD.out; omega) (HK.out.below hkw) hK)
                  have z0 : W.cell? ⟨wr.heap.size, 0, none⟩ = some (.int .i64 (kk : Int)) := hq.cell 0
                  have HNX := Lib.hid (Gp.more HGP.out (by rw [HG.out]; exact hbg) hnx)
                  have HQW := Lib.hid hq
                  have HAW := Lib.hid (HA.out.of_block (hkw.block _ hlq4))
                  have HBW := Lib.hid (HB.out.below hkw HB.out.lt)
                  have HKW := Lib.hid (KRr.out.trans (hkw.mono hsw))
                  have HRW := Lib.hid (own_below HROW.out hkw)
                  have hrl := own_far HROW.out
                  have hwW := hkw.size
                  have hqW := hq.lt
                  have hwr := wrap_two k8
                  have hor := up_int hb256 k8
                  have hge : decide ((kk : Int) < 0) = false := decide_eq_false (by omega)
                  have hge2 : ¬ (kk : Int) < 0 := by omega
                  clear hp0 hp1 hpre hall hly hst hnx hK hq hkw
                  gi_wp2_with (gi_at_builtin; refine wpListIn_append_own _ rfl _ _ 25 rfl (lb + 1) 3 i0 (.int .i64 0) 1 8 Try.underlying25 hi'.out hz0'.out hz1'.out hz2'.out rfl (by decide) _ _ _ rfl (HRW.out.alloc _) ⟨W.heap.size, 0, none⟩ 1 1 [.int .i64 (kk : Int)] rfl rfl (new_one _ _ _) (one_one _) (by unfold maxLen; omega) (by omega) (by simp; omega) ?_; intro v' wn hrow2 hg2 _; have HG3 : Hid (W.grownBy wn u15.ownBlock) := Lib.hid ((World.grownBy_alloc W _ _).trans hg2); have zn : wn.cell? ⟨wr.heap.size, 0, none⟩ = some (.int .i64 (kk : Int)) := (HQW.out.grown HG3.out (fun e => by have := hrl _ e.symm; omega)).cell 0; have HR2 := Lib.hid hrow2; clear hrow2 hg2)
                  have hb3 : Blk wn w.heap.size 56 #[.slice A1 k c1, .slice A2 k c2, .slice A3 m c3] := HBW.out.grown HG3.out (fun e => by have := hrl _ e.symm; omega)
                  have ha3 : Arr wn lb (lead m Rw k S T) := HAW.out.of_block (HG3.out.block _ HAW.out.1 (fun e => by have := hrl _ e.symm; omega))
                  have hk3 : Below w.heap.size w wn := HKW.out.grown HG3.out HKW.out.size (fun j e => by have := hrl j e; omega)
                  have hm3 := hP.out.grown HG3.out (own_cells HRW.out)
                  refine ⟨?rel, ?measure⟩
                  case rel =>
                    exact ⟨p ++ [kk], up b kk, hu1, by simp; omega, rfl, HNX.out, by simpa [nV] using HR2.out, ha3, hb3, hk3, hm3⟩
                  case measure => simp [intOf]; omega
end Go.Proofs.Ytcjbjhkmnfegnaa
