/-
  The contract of Distance, at every two integers. No condition.
-/
import Derived.Test.YtgljfjmffiofkaaIt
namespace Go.Proofs.Ytgljfjmffiofkaa
open Go.RowKit Go.Shelf
attribute [local go_sem] Oper.semAt_some

theorem successors_any (a : Int) (w : World) :
    Calls Try.prog 28 #[.int .i64 a] w fun e w' => e = .returned (.func (.func 37) #[] #[.pointer (some ⟨w.heap.size, 0, none⟩)]) ∧ w.alloc (.cells #[.int .i64 a] 3) = w' := by
  go_enter Try.func28, Try.ntmps28
  go_wp2
  go_ret
  exact ⟨rfl, rfl⟩

def DPost (a b : Int) (w : World) (e : Ending) (w' : World) : Prop := Below w.heap.size w w' ∧ e = .returned (.int .i64 (dst a b))

def ID (w : World) (r0 : Nat) (b : Int) (pre : List (Nat × Int)) (W : World) : Prop :=
  (∀ x ∈ pre, x.2 ≠ b) ∧ Blk W r0 3 #[.int .i64 0] ∧ Blk W w.heap.size 3 #[.int .i64 b] ∧ Below w.heap.size w W
def IxD (w : World) (r0 : Nat) (b : Int) (c : Code) (pre : List (Nat × Int)) (W : World) : Prop :=
  c = .ret ∧ (∃ (p : List (Nat × Int)) (i : Nat), pre = p ++ [(i, b)] ∧ (∀ x ∈ p, x.2 ≠ b) ∧ Blk W r0 3 #[.int .i64 (i : Int)]) ∧ Below w.heap.size w W

theorem Blk.noncell {W W' : World} {row : Option Nat} {g : Nat} {t : TypeId} {cs : Array Value} (h : Blk W g t cs) (hg : W.grownBy W' row) (hr : ∀ r, row = some r → ∃ o : Obj, W.heap[r]? = some o ∧ o.isCells = false) : Blk W' g t cs :=
  h.grown hg (fun e => by obtain ⟨o, ho, hc⟩ := hr g e.symm; unfold Blk at h; rw [h] at ho; cases ho; cases hc)
theorem ID_own {w : World} {r0 Bn : Nat} {b : Int} (hB : w.heap.size ≤ Bn) : OwnFrom Bn (ID w r0 b) := by
  rintro s W W' row ⟨h1, h2, h3, h4⟩ hg hr
  have hr' : ∀ r, row = some r → ∃ o : Obj, W.heap[r]? = some o ∧ o.isCells = false := fun r e => (hr r e).2
  exact ⟨h1, h2.noncell hg hr', h3.noncell hg hr', h4.grown hg h4.size (fun k e => Nat.le_trans hB (hr k e).1)⟩
theorem IxD_own {w : World} {r0 Bn : Nat} {b : Int} (hB : w.heap.size ≤ Bn) (c : Code) : OwnFrom Bn (IxD w r0 b c) := by
  rintro s W W' row ⟨h1, ⟨p, i, h2, h3, h5⟩, h4⟩ hg hr
  have hr' : ∀ r, row = some r → ∃ o : Obj, W.heap[r]? = some o ∧ o.isCells = false := fun r e => (hr r e).2
  exact ⟨h1, ⟨p, i, h2, h3, h5.noncell hg hr'⟩, h4.grown hg h4.size (fun k e => Nat.le_trans hB (hr k e).1)⟩
theorem ID_R {w : World} {r0 nb : Nat} {b : Int} (hr0 : r0 ≠ nb) (hb : w.heap.size < nb) (s : List (Nat × Int)) (A B : World) (h : ID w r0 b s A) (hr : RI nb A B) : ID w r0 b s B := by
  obtain ⟨h1, h2, h3, h4⟩ := h
  exact ⟨h1, h2.grown hr.1 (fun e => hr0 (by injection e)), h3.grown hr.1 (fun e => (Nat.ne_of_lt hb) (by injection e)), h4.grown hr.1 h4.size (fun k e => by cases e; omega)⟩
theorem IxD_R {w : World} {r0 nb : Nat} {b : Int} (hr0 : r0 ≠ nb) (hb : w.heap.size < nb) (c : Code) (s : List (Nat × Int)) (A B : World) (h : IxD w r0 b c s A) (hr : RI nb A B) : IxD w r0 b c s B := by
  obtain ⟨h1, ⟨p, i, h2, h3, h5⟩, h4⟩ := h
  exact ⟨h1, ⟨p, i, h2, h3, h5.grown hr.1 (fun e => hr0 (by injection e))⟩, h4.grown hr.1 h4.size (fun k e => by cases e; omega)⟩

theorem els_no {a b : Int} {n : Nat} (h : ∀ x ∈ els a n, x.2 ≠ b) : ∀ i, i < n → itr a i ≠ b := fun i hi => h (i, itr a i) (List.mem_map.2 ⟨i, List.mem_range.2 hi, rfl⟩)
theorem els_last {a b : Int} {k i : Nat} {p : List (Nat × Int)} (h : els a (k + 1) = p ++ [(i, b)]) : i = k ∧ itr a k = b ∧ p = els a k := by
  rw [els_succ] at h
  have h1 := (List.append_inj' h rfl)
  have h2 := h1.2
  simp at h2
  exact ⟨h2.1.symm, h2.2, h1.1.symm⟩

set_option maxRecDepth 100000 in
set_option maxHeartbeats 4000000 in
theorem distance_ok (a b : Int) (w : World) (ha : isN a = true) (hb : isN b = true) :
    Calls Try.prog 14 #[.int .i64 a, .int .i64 b] w (DPost a b w) := by
  refine (callsIn_wide (n := 5)).1 ?_
  refine callsIn_of_wp_marks Try.func14 rfl trivial ?_ rfl
  simp only [Try.ntmps14, List.size_toArray, List.length_cons, List.length_nil, Nat.reduceAdd, Nat.reduceSub, Array.replicate_succ, Array.replicate_zero, List.push_toArray, List.append_toArray, List.nil_append, List.cons_append]
  have HA := Lib.hid ha
  have HB := Lib.hid hb
  clear ha hb
  gi_wp2_with fail
  refine ⟨trivial, ?_⟩
  refine (callsIn_wide.2 (number_to a _ HA.out)).mono ?_
  rintro e w1 ⟨rfl, rfl⟩
  gi_wp2_with fail
  refine ⟨trivial, ?_⟩
  refine (callsIn_wide.2 (number_to b _ HB.out)).mono ?_
  rintro e w1 ⟨rfl, rfl⟩
  gi_wp2_with fail
  refine ⟨trivial, ?_⟩
  refine (callsIn_wide.2 (successors_any _ _)).mono ?_
  rintro e w1 ⟨rfl, rfl⟩
  obtain ⟨W2, hW2⟩ : ∃ W2, ((w.alloc (.cells #[.int .i64 b] 3)).alloc (.cells #[.int .i64 0] 3)).alloc (.cells #[.int .i64 a] 3) = W2 := ⟨_, rfl⟩
  have hsz2 : W2.heap.size = w.heap.size + 1 + 1 + 1 := by rw [← hW2]; simp
  have hbb : Blk W2 w.heap.size 3 #[.int .i64 b] := by rw [← hW2]; exact ((Blk.made w 3 _).alloc _).alloc _
  have hr0 : Blk W2 (w.heap.size + 1) 3 #[.int .i64 0] := by rw [← hW2]; exact (Blk.made_at _ _ _ (by simp)).alloc _
  have hnb : Blk W2 (w.heap.size + 1 + 1) 3 #[.int .i64 a] := by rw [← hW2]; exact Blk.made_at _ _ _ (by simp)
  have kW : Below w.heap.size w W2 := by rw [← hW2]; exact (((Below.refl _ _).alloc (Nat.le_refl _) _).alloc (by simp) _).alloc (by simp; omega) _
  have hz : (((w.alloc (.cells #[.int .i64 b] 3)).alloc (.cells #[.int .i64 0] 3))).heap.size = w.heap.size + 1 + 1 := by simp
  rw [hz, hW2]
  have HW2 := Lib.hid hW2
  have HS2 := Lib.hid hsz2
  clear hz
  gi_wp2_with fail
  have hfseq : SeqR Fence.wide 4 Try.prog 37 #[.pointer (some ⟨w.heap.size + 1 + 1, 0, none⟩)] encs (KpI (w.heap.size + 1 + 1) (w.heap.size + 1 + 1)) (RI (w.heap.size + 1 + 1)) (SI a) (SpI a) 256 W2 :=
    fun l J0 Jx W hW hJ _ hY h0 => succ1 4 l (w.heap.size + 1 + 1) (w.heap.size + 1 + 1) a J0 Jx hJ W (hnb.below hW hnb.lt) (by omega) (Nat.le_refl _) hY h0
  refine wpIn_rangeFunc_R rfl (by omega) (gf := 37) (lb := #[.pointer (some ⟨w.heap.size + 1 + 1, 0, none⟩)]) rfl trivial (enters_of Try.func37 (by kernel_rfl) rfl)
    hfseq (fun X Y h l h1 h2 => h.1.block l h2 (fun e => by injection e with e; have := HS2.out; omega))
    (fun h k => ⟨Nat.le_trans h.1 k.1, fun j hj => (k.2 j hj).trans (h.2 j hj)⟩)
    (fun W l o o' hl ho _ _ => ⟨by simp, fun j hj => World.putObj_heap_other (by have := HS2.out; omega)⟩) (Below.refl _ _) (fun _ => rfl)
    (ID w (w.heap.size + 1) b) (IxD w (w.heap.size + 1) b) (ID_own (by have := HS2.out; omega)) (IxD_own (by have := HS2.out; omega)) (ID_R (by omega) (by omega)) (IxD_R (by omega) (by omega))
    ⟨by simp, hr0, hbb, kW⟩
    (fun x => { tmps := #[.int .i64 a, .int .i64 b, undef, .pointer (some ⟨w.heap.size, 0, none⟩), .pointer (some ⟨w.heap.size + 1, 0, none⟩), .int .i64 (x.1 : Int), .int .i64 x.2, .int .i64 a, .bool true, .bool false, .bool false, .int .i64 b, .bool true, .bool false, .bool false, .int .i64 a,
      .func (.func 37) #[] #[.pointer (some ⟨w.heap.size + 1 + 1, 0, none⟩)], .int .i64 (x.1 : Int), .int .i64 x.2, undef, undef, undef, undef], defers := [] }) ?assign ?body ?done ?stop
  case assign =>
    intro l x W K hK
    gi_wp2
    exact hK
  case body =>
    rintro l pre ⟨i, y⟩ W ⟨h1, h2, h3, h4⟩ hlen
    have z0 : W.cell? ⟨w.heap.size, 0, none⟩ = some (.int .i64 b) := h3.cell 0
    have z1 : W.cell? ⟨w.heap.size + 1, 0, none⟩ = some (.int .i64 0) := h2.cell 0
    have z2 : W.frozen? ⟨w.heap.size + 1, 0, none⟩ = false := h2.free 0
    have H1 := Lib.hid h1
    clear h1
    by_cases hy : y = b
    · subst hy
      gi_wp2
      exact ⟨KeepsOthers.setCell _ _ _, rfl, ⟨pre, i, rfl, H1.out, h2.put 0 _⟩, h4.setCell (p := ⟨w.heap.size + 1, 0, none⟩) (by show w.heap.size ≤ w.heap.size + 1; omega) _⟩
    · have he' : (y == b) = false := by simpa using hy
      have HY := Lib.hid hy
      clear hy
      gi_wp2
      exact ⟨KeepsOthers.refl _, ⟨Nat.le_refl _, fun _ _ => rfl⟩, fun x hx => (List.mem_append.1 hx).elim (H1.out x) (fun h => (by simp at h; subst h; exact HY.out)), h2, h3, h4⟩
  case done =>
    rintro D xs W hD hS ⟨h1, h2, h3, h4⟩ hK
    rw [HS2.out] at hD
    have z1 : W.cell? ⟨w.heap.size + 1, 0, none⟩ = some (.int .i64 0) := h2.cell 0
    have z2 : W.frozen? ⟨w.heap.size + 1, 0, none⟩ = false := h2.free 0
    have hd : Hid (dst a b = -1) := Lib.hid (dst_none HA.out HB.out (els_no (hS ▸ h1)))
    clear h1 hS
    gi_wp2
    have hK' := (KeepsOthers.setCell W ⟨w.heap.size + 1, 0, none⟩ (.int .i64 (-1))).same D _ hK rfl
    refine ⟨by simp, .inl ⟨_, _, rfl, run_takeDeferred hK', ?_⟩⟩
    have hc := cell_kept ((h2.put 0 (.int .i64 (-1))).cell 0) (grownBy_putObj' _ D (.deferred none)) (fun r e => by cases e; exact ⟨_, hK', rfl⟩)
    refine ⟨.int .i64 (-1), ?_, (h4.setCell (p := ⟨w.heap.size + 1, 0, none⟩) (by show w.heap.size ≤ w.heap.size + 1; omega) _).trans (belowK_b (w := w) (Nat.le_refl _) _ D _ _ (by omega) hK' rfl rfl), by rw [hd.out]⟩
    simp [results, Try.f14, go_sem, hc]
  case stop =>
    rintro D c pre W hD ⟨k, hk, hp⟩ ⟨rfl, ⟨p, i, hp2, hne, h5⟩, h4⟩ hK
    rw [HS2.out] at hD
    obtain ⟨rfl, hit, rfl⟩ := els_last (hp.symm.trans hp2)
    have hd : Hid (dst a b = i) := Lib.hid (dst_at HA.out HB.out (by omega) (els_no hne) hit)
    clear hp hp2 hne hit
    gi_wp2
    refine ⟨by simp, .inl ⟨_, _, rfl, run_takeDeferred hK, ?_⟩⟩
    have hc := cell_kept (h5.cell 0) (grownBy_putObj' _ D (.deferred none)) (fun r e => by cases e; exact ⟨_, hK, rfl⟩)
    refine ⟨.int .i64 (i : Int), ?_, h4.trans (belowK_b (w := w) (Nat.le_refl _) W D _ _ (by omega) hK rfl rfl), by rw [hd.out]⟩
    simp [results, Try.f14, go_sem, hc]

set_option maxRecDepth 100000 in
set_option maxHeartbeats 4000000 in
theorem distance_any (a b : Int) (w : World) :
    Calls Try.prog 14 #[.int .i64 a, .int .i64 b] w fun e w' => e = .returned (.int .i64 (dst a b)) ∧ Below w.heap.size w w' := by
  cases ha : isN a with
  | true =>
    cases hb : isN b with
    | true => exact (distance_ok a b w ha hb).mono fun e w' h => ⟨h.2, h.1⟩
    | false =>
      have hd : Hid (dst a b = -1) := Lib.hid (dst_not (by rw [hb]; simp))
      go_enter Try.func14, Try.ntmps14
      go_wp2_with fail
      refine (number_to a _ ha).mono ?_
      rintro e w1 ⟨rfl, rfl⟩
      go_wp2_with fail
      refine (number_to b _ hb).mono ?_
      rintro e w1 ⟨rfl, rfl⟩
      go_wp2_with fail
      have hc := (Blk.made_at (g := w.heap.size + 1) (w.alloc (.cells #[.int .i64 b] 3)) 3 #[.int .i64 (-1)] (by simp)).cell 0
      refine ⟨rfl, .int .i64 (-1), ?_, by rw [hd.out], ((Below.refl _ w).alloc (Nat.le_refl _) _).alloc (by simp) _⟩
      simp [results, Try.f14, go_sem, hc]
  | false =>
    have hd : Hid (dst a b = -1) := Lib.hid (dst_not (by rw [ha]; simp))
    go_enter Try.func14, Try.ntmps14
    go_wp2_with fail
    refine (number_to a _ ha).mono ?_
    rintro e w1 ⟨rfl, rfl⟩
    go_wp2_with fail
    have hc := (Blk.made_at (g := w.heap.size + 1) (w.alloc (.cells #[.int .i64 b] 3)) 3 #[.int .i64 (-1)] (by simp)).cell 0
    refine ⟨rfl, .int .i64 (-1), ?_, by rw [hd.out], ((Below.refl _ w).alloc (Nat.le_refl _) _).alloc (by simp) _⟩
    simp [results, Try.f14, go_sem, hc]
end Go.Proofs.Ytgljfjmffiofkaa
