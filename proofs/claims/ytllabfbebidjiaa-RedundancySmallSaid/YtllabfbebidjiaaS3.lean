/-
  The contract of Recent at a selector that New has made: the numbers that are recent at the time, in order; nothing where the time goes back or is too great, and at no selector. No condition.
-/
import Derived.Test.YtllabfbebidjiaaS2
import Derived.Test.YtllabfbebidjiaaSl
import Derived.OwnWalk
namespace Go.Proofs.Ytllabfbebidjiaa
open Go.RowKit Go.Shelf
attribute [local go_sem] Oper.semAt_some
theorem Try.info3' : (Try.prog.info? 3).map (fun i => (i.zero, i.size, i.bytes)) = some (some (.int .i64 0), 1, 8) := by kernel_rfl
/-- a slice of numbers -/
def NumsIn (w : World) (A : Option Addr) (z : List Nat) : Prop := 0 < z.length → ∃ b, A = some ⟨b, 0, none⟩ ∧ b < w.heap.size ∧ ∀ k, k < z.length → w.cell? ⟨b, k, none⟩ = some (.int .i64 ((z.getD k 0 : Nat) : Int))
theorem NumsIn.below {w w' : World} {A : Option Addr} {z : List Nat} {B : Nat} (h : NumsIn w A z) (hb : Below B w w') (hB : w.heap.size ≤ B) : NumsIn w' A z := fun hz => by
  obtain ⟨b, hA, hlt, hc⟩ := h hz
  exact ⟨b, hA, Nat.lt_of_lt_of_le hlt hb.size, fun k hk => (hb.cell (p := ⟨b, k, none⟩) (Nat.lt_of_lt_of_le hlt hB)).trans (hc k hk)⟩
theorem own_nums {w : World} {base : Nat} {v : Value} {z : List Nat} (h : w.ownsRow base 3 1 v z.length (nV z)) : ∃ A c, v = .slice A z.length c ∧ NumsIn w A z := by
  rcases h.2 with ⟨rfl, h0⟩ | ⟨g, cap, cur, rfl, _, hh, _⟩
  · rw [h0]
    exact ⟨none, 0, rfl, fun h => by omega⟩
  · refine ⟨_, _, rfl, fun _ => ⟨g, rfl, lt_of_block hh, fun k hk => ?_⟩⟩
    have h1 := h.cells (g := g) rfl k (.int .i64 ((z.getD k 0 : Nat) : Int)) (by simp [nV, hk])
    rwa [add_eq, Nat.zero_add] at h1
theorem new_one (w : World) (x : Value) (t : TypeId) : ∀ (j : Nat) (u : Value), [x][j]? = some u → (w.alloc (.cells #[x] t)).cell? ((⟨w.heap.size, 0, none⟩ : Addr).add j) = some u := by
  intro j u hj
  have hb := Blk.made w t #[x]
  rw [add_eq, Nat.zero_add, hb.cell]
  simpa using hj
theorem one_one (a : Int) : ∀ u ∈ [Value.int .i64 a], u.oneCell' = true := by
  intro u hu
  simp at hu
  subst hu
  rfl
theorem own_ne {w : World} {base : Nat} {e t : TypeId} {size n g : Nat} {v : Value} {xs : List Value} {cs : Array Value} (h : w.ownsRow base e size v n xs) (hg : Blk w g t cs) (hne : e ≠ t) : v.ownBlock ≠ some g := by
  rcases h.2 with ⟨rfl, _⟩ | ⟨g', cap, cur, rfl, _, hh, _⟩
  · simp [Value.ownBlock]
  · intro he
    have e1 : g' = g := by simpa [Value.ownBlock] using he
    subst e1
    unfold Blk at hg
    rw [hh] at hg
    injection hg with hg
    injection hg with _ ht
    exact hne ht
theorem own_slice {W : World} {base : Nat} {e : TypeId} {size n : Nat} {v : Value} {xs : List Value} (h : W.ownsRow base e size v n xs) : ∃ A m c, v = .slice A m c := by
  rcases h.2 with ⟨rfl, _⟩ | ⟨g, cap, cur, rfl, _⟩
  · exact ⟨_, _, _, rfl⟩
  · exact ⟨_, _, _, rfl⟩
theorem Blk.noncell {W W' : World} {row : Option Nat} {g : Nat} {t : TypeId} {cs : Array Value} (h : Blk W g t cs) (hg : W.grownBy W' row) (hr : ∀ r, row = some r → ∃ o : Obj, W.heap[r]? = some o ∧ o.isCells = false) : Blk W' g t cs :=
  h.grown hg (fun e => by obtain ⟨o, ho, hc⟩ := hr g e.symm; unfold Blk at h; rw [h] at ho; cases ho; cases hc)
theorem own_noncell {W W' : World} {row : Option Nat} {base : Nat} {e : TypeId} {size n : Nat} {v : Value} {xs : List Value} (h : W.ownsRow base e size v n xs) (hg : W.grownBy W' row) (hr : ∀ r, row = some r → ∃ o : Obj, W.heap[r]? = some o ∧ o.isCells = false) : W'.ownsRow base e size v n xs := by
  refine h.kept hg ?_
  rcases h.2 with ⟨rfl, _⟩ | ⟨g, cap, cur, rfl, _, hh, _⟩
  · exact .inl rfl
  · refine .inr (fun he => ?_)
    obtain ⟨o, ho, hc⟩ := hr g he.symm
    rw [hh] at ho; cases ho; cases hc
/-- what the loop keeps: out's box, the list so far -/
def IR (w : World) (n2 : Nat) (pre : List Nat) (W : World) : Prop := (∃ v, Blk W w.heap.size 27 #[v] ∧ W.ownsRow n2 3 1 v pre.length (nV pre)) ∧ n2 ≤ W.heap.size ∧ Below w.heap.size w W
def IxR (_ : Code) (_ : List Nat) (_ : World) : Prop := False
theorem IR_own {w : World} {n2 Bn : Nat} (hB : w.heap.size ≤ Bn) : OwnFrom Bn (IR w n2) := by
  rintro s W W' row ⟨⟨v, h2, h3⟩, h4, h9⟩ hg hr
  have hr' : ∀ r, row = some r → ∃ o : Obj, W.heap[r]? = some o ∧ o.isCells = false := fun r e => (hr r e).2
  exact ⟨⟨v, h2.noncell hg hr', own_noncell h3 hg hr'⟩, Nat.le_trans h4 hg.size, h9.grown hg h9.size (fun k e => Nat.le_trans hB (hr k e).1)⟩
theorem IxR_own {Bn : Nat} (c : Code) : OwnFrom Bn (IxR c) := by
  rintro s W W' row h _ _
  exact h
theorem body_app {w W W1 : World} {g' cap' : Nat} {pre : List Nat} {i : Nat} {v : Value} (h2 : Blk W w.heap.size 27 #[v]) (h3 : W.ownsRow (w.heap.size + 1 + 1 + 1) 3 1 v pre.length (nV pre)) (h4 : w.heap.size + 1 + 1 + 1 ≤ W.heap.size)
    (h9 : Below w.heap.size w W) (y2 : Blk W1 w.heap.size 27 #[v])
    (hown : W1.ownsRow (w.heap.size + 1 + 1 + 1) 3 1 (.slice (some ⟨g', 0, none⟩) (pre.length + 1) cap') (pre.length + 1) (nV pre ++ [.int .i64 (i : Int)])) (hgrow : (W.alloc (.cells #[.int .i64 (i : Int)] 3)).grownBy W1 v.ownBlock) :
    KeepsOthers W (W1.setCell ⟨w.heap.size, 0, none⟩ (.slice (some ⟨g', 0, none⟩) (pre.length + 1) cap')) ∧ KpN 0 (w.heap.size + 1 + 1) W (W1.setCell ⟨w.heap.size, 0, none⟩ (.slice (some ⟨g', 0, none⟩) (pre.length + 1) cap')) ∧
      IR w (w.heap.size + 1 + 1 + 1) (pre ++ [i]) (W1.setCell ⟨w.heap.size, 0, none⟩ (.slice (some ⟨g', 0, none⟩) (pre.length + 1) cap')) := by
  have hlt := h3.lt
  have hg := (World.grownBy_alloc W (.cells #[.int .i64 (i : Int)] 3) v.ownBlock).trans hgrow
  have hb : Below w.heap.size w W1 := h9.grown hg h9.size (fun k e => by have := (hlt k e).1; omega)
  refine ⟨?_, ⟨by simpa using hg.size, fun k hk => ?_⟩, ⟨_, y2.put 0 _, ?_⟩, ?_, hb.setCell (p := ⟨w.heap.size, 0, none⟩) (Nat.le_refl _) _⟩
  · refine (KeepsOthers.of_grownBy hg (fun j o e ho => ?_)).trans (KeepsOthers.setCell _ _ _)
    rcases h3.2 with ⟨rfl, _⟩ | ⟨g2, cap2, cur, rfl, _, hh, _⟩
    · simp [Value.ownBlock] at e
    · simp [Value.ownBlock] at e
      subst e
      rw [hh] at ho; cases ho; rfl
  · rcases hk with hk | rfl
    · omega
    · refine (heap_setCell_other _ _ _ _ (by show w.heap.size + 1 + 1 ≠ w.heap.size; omega)).trans (hg.block _ (by omega) (fun e => ?_))
      have := (hlt _ e.symm).1
      omega
  · rw [List.length_append, show nV (pre ++ [i]) = nV pre ++ [.int .i64 (i : Int)] by simp [nV]]
    exact ownsRow_setCell_other hown (own_ne hown y2 (by decide)) _
  · simpa using Nat.le_trans h4 hg.size
def RPost (z : List Nat) (w : World) (e : Ending) (w' : World) : Prop := (∃ A c, e = .returned (.slice A z.length c) ∧ NumsIn w' A z) ∧ Below w.heap.size w w'
/-- the same, and the list lies in a new block -/
def RPost2 (z : List Nat) (w : World) (e : Ending) (w' : World) : Prop := (∃ A c, e = .returned (.slice A z.length c) ∧ NumsIn w' A z ∧ ∀ g, A = some ⟨g, 0, none⟩ → w.heap.size ≤ g) ∧ Below w.heap.size w w'
theorem RPost2.weak {z : List Nat} {w w' : World} {e : Ending} (h : RPost2 z w e w') : RPost z w e w' := by
  obtain ⟨⟨A, c, h1, h2, _⟩, h3⟩ := h
  exact ⟨⟨A, c, h1, h2⟩, h3⟩
theorem rpost_put {z : List Nat} {D : Nat} {w W : World} {e : Ending} {o' : Obj} (h : RPost2 z w e W) (hK : W.heap[D]? = some (.deferred (some []))) (hD : w.heap.size ≤ D) : RPost2 z w e (W.putObj D o') := by
  obtain ⟨⟨A, c, h1, h2, h3⟩, hb⟩ := h
  have kb := belowK_b (w := w) (Nat.le_refl _) W D (.deferred (some [])) o' hD hK rfl rfl
  refine ⟨⟨A, c, h1, fun hz => ?_, h3⟩, hb.trans kb⟩
  obtain ⟨b, h3, h4, h5⟩ := h2 hz
  refine ⟨b, h3, by simpa using h4, fun k hk => ?_⟩
  exact cell_kept (h5 k hk) (grownBy_putObj' W D o') (fun r e => by cases e; exact ⟨_, hK, rfl⟩)
set_option maxRecDepth 100000 in
set_option maxHeartbeats 4000000 in
theorem recents_ok2 (sb : Nat) (s : St) (t : Int) (w : World) (hs : SelW w sb s) (hm : mvs s.now t = true) :
    Calls Try.prog 20 #[.pointer (some ⟨sb, 0, none⟩), .int .i64 t] w (RPost2 (rcs s.nxt t 256) w) := by
  refine (callsIn_wide (n := 5)).1 ?_
  obtain ⟨i0, hi, hz0, hz1, hz2⟩ := info_parts Try.info3'
  have hi' := Lib.hid hi
  have hz0' := Lib.hid hz0
  have hz1' := Lib.hid hz1
  have hz2' := Lib.hid hz2
  have HS := Lib.hid hs
  have HM := Lib.hid hm
  have HR : Hid (∀ xs, SN s.nxt t xs → xs = rcs s.nxt t 256) := Lib.hid (fun xs h => h)
  obtain ⟨z, hz⟩ : ∃ z, rcs s.nxt t 256 = z := ⟨_, rfl⟩
  rw [hz] at HR ⊢
  clear hi hz0 hz1 hz2 hs hm hz
  refine callsIn_of_wp_marks Try.func20 rfl trivial ?_ rfl
  simp only [Try.ntmps20, List.size_toArray, List.length_cons, List.length_nil, Nat.reduceAdd, Nat.reduceSub, Array.replicate_succ, Array.replicate_zero, List.push_toArray, List.append_toArray, List.nil_append, List.cons_append]
  gi_wp2_with fail
  refine ⟨trivial, ?_⟩
  refine (callsIn_wide.2 (selMade_yes sb _ HS.out.own)).mono ?_
  rintro e w1 ⟨rfl, rfl⟩
  gi_wp2_with fail
  refine ⟨trivial, ?_⟩
  refine (callsIn_wide.2 (moves_any sb s.now t _ HS.out.now)).mono ?_
  rintro e w1 ⟨rfl, rfl⟩
  rw [HM.out]
  gi_wp2_with fail
  refine ⟨trivial, ?_⟩
  refine (callsIn_wide.2 (recent_any sb t _)).mono ?_
  rintro e w1 ⟨rfl, rfl⟩
  obtain ⟨W2, hW2⟩ : ∃ W2, ((w.alloc (.cells #[.slice none 0 0] 27)).alloc (.cells #[.pointer (some ⟨sb, 0, none⟩)] 39)).alloc (.cells #[.int .i64 t] 3) = W2 := ⟨_, rfl⟩
  have hsz2 : W2.heap.size = w.heap.size + 1 + 1 + 1 := by rw [← hW2]; simp
  have hob : Blk W2 w.heap.size 27 #[.slice none 0 0] := by rw [← hW2]; exact ((Blk.made w _ _).alloc _).alloc _
  have hqb : Blk W2 (w.heap.size + 1) 39 #[.pointer (some ⟨sb, 0, none⟩)] := by rw [← hW2]; exact (Blk.made_at _ _ _ (by simp)).alloc _
  have htb : Blk W2 (w.heap.size + 1 + 1) 3 #[.int .i64 t] := by rw [← hW2]; exact Blk.made_at _ _ _ (by simp)
  have kW : Below w.heap.size w W2 := by rw [← hW2]; exact (((Below.refl _ _).alloc (Nat.le_refl _) _).alloc (by simp) _).alloc (by simp; omega) _
  have hz : (w.alloc (.cells #[.slice none 0 0] 27)).heap.size = w.heap.size + 1 := by simp
  have hs2 : SelW W2 sb s := HS.out.kept kW
  rw [hz, hW2]
  have HS2 := Lib.hid hsz2
  clear hz hW2
  gi_wp2_with fail
  have hfseq : SeqR Fence.wide 4 Try.prog 45 #[.pointer (some ⟨w.heap.size + 1, 0, none⟩), .pointer (some ⟨w.heap.size + 1 + 1, 0, none⟩)] encN (KpN 0 (w.heap.size + 1 + 1)) (fun A B => A = B) (SN s.nxt t) SpN 256 W2 :=
    fun l J0 Jx W hW _ _ hY h0 => recent1 4 l 0 sb (w.heap.size + 1) (w.heap.size + 1 + 1) s t J0 Jx W (hs2.kept hW) (hqb.below hW hqb.lt) (htb.below hW htb.lt) (by omega) hY h0
  refine wpIn_rangeFunc_R rfl (by omega) (gf := 45) (lb := #[.pointer (some ⟨w.heap.size + 1, 0, none⟩), .pointer (some ⟨w.heap.size + 1 + 1, 0, none⟩)]) rfl trivial (enters_of Try.func45 (by kernel_rfl) rfl)
    hfseq (fun X Y h l h1 h2 => by rw [h])
    (fun h k => ⟨Nat.le_trans h.1 k.1, fun j hj => (k.2 j hj).trans (h.2 j hj)⟩)
    (fun W l o o' hl ho _ _ => ⟨by simp, fun j hj => World.putObj_heap_other (by have := HS2.out; omega)⟩) (Below.refl _ _) (fun _ => rfl)
    (IR w (w.heap.size + 1 + 1 + 1)) IxR (IR_own (by have := HS2.out; omega)) IxR_own (fun s A B h e => e ▸ h) (fun c s A B h e => h.elim)
    ⟨⟨_, hob, World.ownsRow_nil _ _ _ _⟩, by have := HS2.out; omega, kW⟩
    (fun x => { tmps := #[.pointer (some ⟨sb, 0, none⟩), .int .i64 t, undef, undef, .slice none 0 0, .pointer (some ⟨w.heap.size, 0, none⟩), .int .i64 (x : Int), .pointer (some ⟨sb, 0, none⟩), .bool true, .bool false, .bool false,
      .pointer (some ⟨sb, 0, none⟩), .pointer (some ⟨sb, 0, none⟩), .pointer (some ⟨sb, 0, none⟩), .int .i64 t, .bool true, .bool false, .bool false, .pointer (some ⟨sb, 0, none⟩), .int .i64 t,
      .func (.func 45) #[] #[.pointer (some ⟨w.heap.size + 1, 0, none⟩), .pointer (some ⟨w.heap.size + 1 + 1, 0, none⟩)], .int .i64 (x : Int), undef, undef, undef, undef, undef], defers := [] }) ?assign ?body ?done ?stop
  case assign =>
    intro l x W K hK
    gi_wp2
    exact hK
  case body =>
    rintro l pre i W ⟨⟨v, h2, h3⟩, h4, h9⟩ hlen
    have z0 : W.cell? ⟨w.heap.size, 0, none⟩ = some v := h2.cell 0
    have z1 : W.frozen? ⟨w.heap.size, 0, none⟩ = false := h2.free 0
    gi_wp2_with (gi_at_builtin; refine wpListIn_append_own _ rfl _ _ 27 rfl (w.heap.size + 1 + 1 + 1) 3 i0 (.int .i64 0) 1 8 Try.underlying27 hi'.out hz0'.out hz1'.out hz2'.out rfl (by decide) _ _ _ rfl (h3.alloc _) ⟨W.heap.size, 0, none⟩ 1 1 [.int .i64 (i : Int)] rfl rfl (new_one _ _ _) (one_one _) (by unfold maxLen; omega) (by omega) (by simp; omega) ?_; intro v' W1 hown' hgrow _; obtain ⟨g', cap', rfl⟩ := ownsRow_succ hown'; have y2 : Blk W1 w.heap.size 27 #[v] := (h2.alloc _).grown hgrow (Ne.symm (own_ne h3 h2 (by decide))); have y3 : W1.cell? ⟨w.heap.size, 0, none⟩ = some v := y2.cell 0; have y4 : W1.frozen? ⟨w.heap.size, 0, none⟩ = false := y2.free 0)
    exact body_app h2 h3 h4 h9 y2 hown' hgrow
  case done =>
    rintro D xs W hD hS ⟨⟨v, h2, h3⟩, h4, h9⟩ hK
    rw [HS2.out] at hD
    rw [HR.out _ hS] at h3
    obtain ⟨A1, c1, rfl, hn⟩ := own_nums h3
    have z0 : W.cell? ⟨w.heap.size, 0, none⟩ = some (.slice A1 z.length c1) := h2.cell 0
    have HN := Lib.hid hn
    have hfr : ∀ g, A1 = some ⟨g, 0, none⟩ → w.heap.size ≤ g := fun g e => by
      have := (h3.lt g (by rw [e]; rfl)).1
      omega
    have HFR := Lib.hid hfr
    clear h3 hn hS hfr
    gi_wp2
    refine ⟨by simp, .inl ⟨_, _, rfl, run_takeDeferred hK, ?_⟩⟩
    refine ⟨.slice A1 z.length c1, ?_, rpost_put ⟨⟨_, _, rfl, HN.out, HFR.out⟩, h9⟩ hK (by omega)⟩
    simp [results, Try.f20, go_sem]
  case stop =>
    rintro D c pre W hD hSp h hK
    exact h.elim
theorem recents_ok (sb : Nat) (s : St) (t : Int) (w : World) (hs : SelW w sb s) (hm : mvs s.now t = true) :
    Calls Try.prog 20 #[.pointer (some ⟨sb, 0, none⟩), .int .i64 t] w (RPost (rcs s.nxt t 256) w) := (recents_ok2 sb s t w hs hm).mono fun _ _ h => h.weak
theorem RPost.nil (w : World) : RPost [] w (.returned (.slice none 0 0)) w := ⟨⟨none, 0, rfl, fun h => absurd h (by simp)⟩, Below.refl _ _⟩
set_option maxRecDepth 100000 in
set_option maxHeartbeats 1000000 in
theorem recents_late (sb : Nat) (s : St) (t : Int) (w : World) (hs : SelW w sb s) (hm : mvs s.now t = false) :
    Calls Try.prog 20 #[.pointer (some ⟨sb, 0, none⟩), .int .i64 t] w (RPost [] w) := by
  have HS := Lib.hid hs
  have HM := Lib.hid hm
  clear hs hm
  go_enter Try.func20, Try.ntmps20
  go_wp2_with fail
  refine (selMade_yes sb _ HS.out.own).mono ?_
  rintro e w1 ⟨rfl, rfl⟩
  go_wp2_with fail
  refine (moves_any sb s.now t _ HS.out.now).mono ?_
  rintro e w1 ⟨rfl, rfl⟩
  rw [HM.out]
  go_wp2_with fail
  go_ret
  exact RPost.nil _
set_option maxRecDepth 100000 in
set_option maxHeartbeats 1000000 in
theorem recents_nil (t : Int) (w : World) : Calls Try.prog 20 #[.pointer none, .int .i64 t] w (RPost [] w) := by
  go_enter Try.func20, Try.ntmps20
  go_wp2_with fail
  refine (selMade_nil _).mono ?_
  rintro e w1 ⟨rfl, rfl⟩
  go_wp2_with fail
  go_ret
  exact RPost.nil _
set_option maxRecDepth 100000 in
set_option maxHeartbeats 1000000 in
theorem recents_no (sb : Nat) (t : Int) (w : World) (h : w.cell? ⟨sb, 260, none⟩ = some (.pointer none)) : Calls Try.prog 20 #[.pointer (some ⟨sb, 0, none⟩), .int .i64 t] w (RPost [] w) := by
  go_enter Try.func20, Try.ntmps20
  go_wp2_with fail
  refine (selMade_no sb _ h).mono ?_
  rintro e w1 ⟨rfl, rfl⟩
  go_wp2_with fail
  go_ret
  exact RPost.nil _
/-- the recent numbers that Recent lists -/
def recents (s : St) (t : Int) : List Nat := if mvs s.now t = true then rcs s.nxt t 256 else []
theorem recents_any (sb : Nat) (s : St) (t : Int) (w : World) (hs : SelW w sb s) : Calls Try.prog 20 #[.pointer (some ⟨sb, 0, none⟩), .int .i64 t] w (RPost (recents s t) w) := by
  unfold recents
  cases hm : mvs s.now t with
  | true => rw [if_pos rfl]; exact recents_ok sb s t w hs hm
  | false => rw [if_neg (by simp)]; exact recents_late sb s t w hs hm
end Go.Proofs.Ytllabfbebidjiaa
