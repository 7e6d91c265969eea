/-
  The selector (package redundancy): its 261 cells as a block, what it holds, and the contracts of New, made, moves, Offer, Counts. No condition but bounds on the counts.
-/
import Derived.Test.YtllabfbebidjiaaI4
namespace Go.Proofs.Ytllabfbebidjiaa
open Go.RowKit
/-- what a selector holds -/
structure St where
  now : Int
  skew : Int
  nxt : Nat → Int
  del : Int
  drp : Int
/-- cell i of the selector in block b -/
def selV (b : Nat) (s : St) (i : Nat) : Value :=
  if i = 0 then .int .i64 s.now else if i = 1 then .int .i64 s.skew else if i < 258 then .int .i64 (s.nxt (i - 2)) else if i = 258 then .int .i64 s.del else if i = 259 then .int .i64 s.drp else .pointer (some ⟨b, 0, none⟩)
def SelW (w : World) (b : Nat) (s : St) : Prop := ∃ cs, Blk w b 58 cs ∧ cs.size = 261 ∧ ∀ i, i < 261 → cs[i]? = some (selV b s i)
section
variable {w w' a : World} {b : Nat} {s : St}
theorem SelW.lt (h : SelW w b s) : b < w.heap.size := let ⟨_, h, _⟩ := h; h.lt
theorem SelW.cell (h : SelW w b s) (i : Nat) (hi : i < 261) : w.cell? ⟨b, i, none⟩ = some (selV b s i) := let ⟨_, h, _, k⟩ := h; (h.cell i).trans (k i hi)
theorem SelW.free (h : SelW w b s) (i : Nat) : w.frozen? ⟨b, i, none⟩ = false := let ⟨_, h, _⟩ := h; h.free i
theorem SelW.now (h : SelW w b s) : w.cell? ⟨b, 0, none⟩ = some (.int .i64 s.now) := h.cell 0 (by omega)
theorem SelW.skew (h : SelW w b s) : w.cell? ⟨b, 1, none⟩ = some (.int .i64 s.skew) := h.cell 1 (by omega)
theorem SelW.nxt (h : SelW w b s) {i : Nat} (hi : i < 256) : w.cell? ⟨b, 2 + i, none⟩ = some (.int .i64 (s.nxt i)) := by
  rw [h.cell (2 + i) (by omega)]
  unfold selV
  rw [if_neg (by omega), if_neg (by omega), if_pos (by omega), Nat.add_sub_cancel_left]
theorem SelW.del (h : SelW w b s) : w.cell? ⟨b, 258, none⟩ = some (.int .i64 s.del) := h.cell 258 (by omega)
theorem SelW.drp (h : SelW w b s) : w.cell? ⟨b, 259, none⟩ = some (.int .i64 s.drp) := h.cell 259 (by omega)
theorem SelW.own (h : SelW w b s) : w.cell? ⟨b, 260, none⟩ = some (.pointer (some ⟨b, 0, none⟩)) := h.cell 260 (by omega)
theorem SelW.put (h : SelW w b s) (i : Nat) (v : Value) (s' : St) (hv : ∀ j, j < 261 → selV b s' j = if j = i then v else selV b s j) : SelW (w.setCell ⟨b, i, none⟩ v) b s' := by
  obtain ⟨cs, h1, h2, h3⟩ := h
  refine ⟨_, h1.put i v, by simp [h2], fun j hj => ?_⟩
  rw [hv j hj, Array.getElem?_setIfInBounds]
  by_cases e : i = j
  · subst e
    rw [if_pos rfl, if_pos (by rw [h2]; exact hj), if_pos rfl]
  · rw [if_neg e, if_neg (fun k => e k.symm)]
    exact h3 j hj
theorem SelW.putNow (h : SelW w b s) (t : Int) : SelW (w.setCell ⟨b, 0, none⟩ (.int .i64 t)) b { s with now := t } :=
  h.put 0 _ _ fun j _ => by unfold selV; by_cases e : j = 0 <;> simp [e]
theorem SelW.putDel (h : SelW w b s) (t : Int) : SelW (w.setCell ⟨b, 258, none⟩ (.int .i64 t)) b { s with del := t } :=
  h.put 258 _ _ fun j _ => by
    unfold selV
    by_cases e : j = 258
    · subst e; rfl
    · simp [e]
theorem SelW.putDrp (h : SelW w b s) (t : Int) : SelW (w.setCell ⟨b, 259, none⟩ (.int .i64 t)) b { s with drp := t } :=
  h.put 259 _ _ fun j _ => by
    unfold selV
    by_cases e : j = 259
    · subst e; rfl
    · simp [e]
theorem SelW.putNxt (h : SelW w b s) {i : Nat} (hi : i < 256) (t : Int) : SelW (w.setCell ⟨b, 2 + i, none⟩ (.int .i64 t)) b { s with nxt := fun j => if j = i then t else s.nxt j } :=
  h.put (2 + i) _ _ fun j _ => by
    unfold selV
    by_cases e : j = 2 + i
    · subst e
      rw [if_neg (by omega), if_neg (by omega), if_pos (by omega), if_pos rfl]
      simp
    · rw [if_neg e]
      split
      · rfl
      split
      · rfl
      split
      · have : ¬ j - 2 = i := by omega
        simp [this]
      · rfl
theorem SelW.alloc (h : SelW w b s) (o : Obj) : SelW (w.alloc o) b s := let ⟨cs, h, k⟩ := h; ⟨cs, h.alloc o, k⟩
theorem SelW.drew (h : SelW w b s) : SelW w.drew b s := h
theorem SelW.below {B : Nat} (h : SelW w b s) (hb : Below B w w') (hg : b < B) : SelW w' b s := let ⟨cs, h, k⟩ := h; ⟨cs, h.below hb hg, k⟩
theorem SelW.kept (h : SelW w b s) (hb : Below w.heap.size w w') : SelW w' b s := h.below hb h.lt
theorem SelW.grown {row : Option Nat} (h : SelW w b s) (hb : w.grownBy w' row) (hg : some b ≠ row) : SelW w' b s := let ⟨cs, h, k⟩ := h; ⟨cs, h.grown hb hg, k⟩
end
/-- a new selector's cells -/
def Z58 : Array Value := (Array.replicate 260 (.int .i64 0)).push (.pointer none)
theorem zero58 (w : World) : (zeroValue 58).run Try.prog w = .ok (.agg Z58) w := by kernel_rfl
def St.new (k : Int) : St := ⟨0, k, fun _ => 0, 0, 0⟩
theorem selNew {w : World} {b : Nat} {k : Int} (h : Blk w b 58 ((Z58.setIfInBounds 1 (.int .i64 k)).setIfInBounds 260 (.pointer (some ⟨b, 0, none⟩)))) : SelW w b (.new k) := by
  refine ⟨_, h, by simp [Z58], fun i hi => ?_⟩
  unfold selV St.new
  rw [Array.getElem?_setIfInBounds, Array.getElem?_setIfInBounds]
  by_cases e0 : 260 = i
  · subst e0; simp [Z58]
  by_cases e1 : 1 = i
  · subst e1; simp [Z58]
  have : Z58[i]? = some (.int .i64 0) := by
    unfold Z58
    rw [Array.getElem?_push, if_neg (by simp; omega), Array.getElem?_replicate, if_pos (by omega)]
  rw [if_neg e0, if_neg e1, this]
  have e2 : i < 260 := by omega
  split
  · rfl
  split
  · omega
  split
  · rfl
  split
  · rfl
  split
  · rfl
  · omega
set_option maxRecDepth 100000 in
set_option maxHeartbeats 1000000 in
theorem selNew_ok (k : Int) (w : World) (h0 : 0 ≤ k) (h1 : k ≤ 1073741824) :
    Calls Try.prog 16 #[.int .i64 k] w fun e w' => ∃ b, e = .returned (.tuple #[.pointer (some ⟨b, 0, none⟩), .int .i64 0]) ∧ w.heap.size ≤ b ∧ Below w.heap.size w w' ∧ SelW w' b (.new k) := by
  have hz := zero58 w
  have hl : Z58.size = 261 := by simp [Z58]
  have HN := Lib.hid (fun (W : World) => @selNew W w.heap.size k)
  generalize Z58 = Zv at *
  have hlt : ¬ Zv.size < 2 := by omega
  go_enter Try.func16, Try.ntmps16
  go_wp2_with fail
  go_ret2
  exact ⟨_, rfl, Nat.le_refl _, (Below.refl _ _).alloc (Nat.le_refl _) _, HN.out _ (Blk.made _ _ _)⟩
set_option maxHeartbeats 1000000 in
theorem selNew_bad (k : Int) (w : World) (h : k < 0 ∨ 1073741824 < k) : Calls Try.prog 16 #[.int .i64 k] w fun e w' => e = .returned (.tuple #[.pointer none, .int .i64 2]) ∧ w = w' := by
  by_cases h0 : k < 0
  · go_enter Try.func16, Try.ntmps16
    go_wp2_with fail
    go_ret2
    exact ⟨rfl, rfl⟩
  · have h1 : 1073741824 < k := by omega
    go_enter Try.func16, Try.ntmps16
    go_wp2_with fail
    go_ret2
    exact ⟨rfl, rfl⟩
theorem infoSel : (Try.prog.info? 58).isSome = true := by kernel_rfl
set_option maxRecDepth 100000 in
set_option maxHeartbeats 1000000 in
theorem selMade_yes (b : Nat) (w : World) (c4 : w.cell? ⟨b, 260, none⟩ = some (.pointer (some ⟨b, 0, none⟩))) : Calls Try.prog 27 #[.pointer (some ⟨b, 0, none⟩)] w fun e w' => e = .returned (.bool true) ∧ w = w' := by
  go_enter Try.func27, Try.ntmps27
  obtain ⟨j, hj⟩ := Option.isSome_iff_exists.1 infoSel
  go_wp2
  rw [run_eql_ptr_same w ⟨b, 0, none⟩ Try.underlying39 hj]
  go_wp2
  go_ret
  exact ⟨rfl, rfl⟩
set_option maxRecDepth 100000 in
set_option maxHeartbeats 1000000 in
theorem selMade_nil (w : World) : Calls Try.prog 27 #[.pointer none] w fun e w' => e = .returned (.bool false) ∧ w = w' := by
  go_enter Try.func27, Try.ntmps27
  go_wp2
  go_ret
  exact ⟨rfl, rfl⟩
set_option maxRecDepth 100000 in
set_option maxHeartbeats 1000000 in
theorem selMade_no (b : Nat) (w : World) (hf : w.cell? ⟨b, 260, none⟩ = some (.pointer none)) : Calls Try.prog 27 #[.pointer (some ⟨b, 0, none⟩)] w fun e w' => e = .returned (.bool false) ∧ w = w' := by
  go_enter Try.func27, Try.ntmps27
  go_wp2
  rw [run_eql_nil_ptr w ⟨b, 0, none⟩ Try.underlying39]
  go_wp2
  go_ret
  exact ⟨rfl, rfl⟩
/-- can time t follow now -/
def mvs (now t : Int) : Bool := decide (now ≤ t) && decide (t ≤ 1073741824)
set_option maxHeartbeats 1000000 in
theorem moves_any (b : Nat) (now t : Int) (w : World) (h : w.cell? ⟨b, 0, none⟩ = some (.int .i64 now)) : Calls Try.prog 26 #[.pointer (some ⟨b, 0, none⟩), .int .i64 t] w fun e w' => e = .returned (.bool (mvs now t)) ∧ w = w' := by
  by_cases h0 : now ≤ t
  · by_cases h1 : t ≤ 1073741824
    · have hb : Hid (mvs now t = true) := Lib.hid (by simp [mvs, h0, h1])
      go_enter Try.func26, Try.ntmps26
      go_wp2
      go_ret
      exact ⟨ret_bool hb.out.symm, rfl⟩
    · have hb : Hid (mvs now t = false) := Lib.hid (by simp [mvs, h1])
      go_enter Try.func26, Try.ntmps26
      go_wp2
      go_ret
      exact ⟨ret_bool hb.out.symm, rfl⟩
  · have hb : Hid (mvs now t = false) := Lib.hid (by simp [mvs, h0])
    go_enter Try.func26, Try.ntmps26
    go_wp2
    go_ret
    exact ⟨ret_bool hb.out.symm, rfl⟩
/-! ### Offer -/
/-- the bounds that a selector keeps -/
structure St.Ok (s : St) : Prop where
  n0 : 0 ≤ s.now
  n1 : s.now ≤ 1073741824
  k0 : 0 ≤ s.skew
  k1 : s.skew ≤ 1073741824
  x0 : ∀ i, 0 ≤ s.nxt i
  x1 : ∀ i, s.nxt i ≤ 2147483649
  d0 : 0 ≤ s.del
  r0 : 0 ≤ s.drp
theorem St.Ok.new {k : Int} (h0 : 0 ≤ k) (h1 : k ≤ 1073741824) : (St.new k).Ok := ⟨by simp [St.new], by simp [St.new], h0, h1, fun _ => by simp [St.new], fun _ => by simp [St.new], by simp [St.new], by simp [St.new]⟩
/-- does Offer take these numbers -/
def okq (s : St) (q t : Int) : Bool := isN q && mvs s.now t
def offer (s : St) (q t : Int) : St × Bool × Int :=
  if okq s q t = true then
    if t < s.nxt q.toNat then ({ s with now := t, drp := s.drp + 1 }, false, 0)
    else ({ s with now := t, nxt := fun j => if j = q.toNat then t + s.skew + 1 else s.nxt j, del := s.del + 1 }, true, 0)
  else (s, false, 2)
def OffPost (b : Nat) (r : St × Bool × Int) (w : World) (e : Ending) (w' : World) : Prop := e = .returned (.tuple #[.bool r.2.1, .int .i64 r.2.2]) ∧ SelW w' b r.1 ∧ w.grownBy w' (some b)
theorem Same.sel {w w' : World} (h : Same w w') {b : Nat} {s : St} (hb : SelW w b s) : SelW w' b s := let ⟨cs, h1, k⟩ := hb; ⟨cs, h.blk h1, k⟩
set_option maxRecDepth 100000 in
set_option maxHeartbeats 2000000 in
theorem offer_bad (b : Nat) (s : St) (q t : Int) (w : World) (hs : SelW w b s) (hk : okq s q t = false) :
    Calls Try.prog 17 #[.pointer (some ⟨b, 0, none⟩), .int .i64 q, .int .i64 t] w (OffPost b (offer s q t) w) := by
  have HE : Hid (offer s q t = (s, false, 2)) := Lib.hid (by unfold offer; rw [hk]; simp)
  have HS := Lib.hid hs
  have hn := hs.now
  clear hs
  by_cases hq : isN q = true
  · obtain ⟨q0, q1⟩ := isN_true hq
    have hm : Hid (mvs s.now t = false) := Lib.hid (by simpa [okq, hq] using hk)
    clear hk hq
    go_enter Try.func17, Try.ntmps17
    go_wp2_with fail
    refine (selMade_yes b w HS.out.own).mono ?_
    rintro e w1 ⟨rfl, rfl⟩
    go_wp2_with fail
    refine (moves_any b s.now t w HS.out.now).mono ?_
    rintro e w1 ⟨rfl, rfl⟩
    rw [hm.out]
    go_wp2_with fail
    go_ret2
    exact ⟨by rw [HE.out]; rfl, by rw [HE.out]; exact HS.out, World.grownBy.refl _ _⟩
  · have hq : isN q = false := by simpa using hq
    clear hk
    rcases isN_false hq with h | h
    · clear hq
      go_enter Try.func17, Try.ntmps17
      go_wp2_with fail
      refine (selMade_yes b w HS.out.own).mono ?_
      rintro e w1 ⟨rfl, rfl⟩
      go_wp2_with fail
      go_ret2
      exact ⟨by rw [HE.out]; rfl, by rw [HE.out]; exact HS.out, World.grownBy.refl _ _⟩
    · clear hq
      go_enter Try.func17, Try.ntmps17
      go_wp2_with fail
      refine (selMade_yes b w HS.out.own).mono ?_
      rintro e w1 ⟨rfl, rfl⟩
      go_wp2_with fail
      go_ret2
      exact ⟨by rw [HE.out]; rfl, by rw [HE.out]; exact HS.out, World.grownBy.refl _ _⟩
set_option maxRecDepth 100000 in
set_option maxHeartbeats 2000000 in
theorem offer_ok (b : Nat) (s : St) (q t : Int) (w : World) (hs : SelW w b s) (hk : okq s q t = true) (h : s.Ok) (hd : s.del ≤ 1000000000000) (hr : s.drp ≤ 1000000000000) :
    Calls Try.prog 17 #[.pointer (some ⟨b, 0, none⟩), .int .i64 q, .int .i64 t] w (OffPost b (offer s q t) w) := by
  simp only [okq, Bool.and_eq_true] at hk
  obtain ⟨hq, hm⟩ := hk
  obtain ⟨q0, q1⟩ := isN_true hq
  have hm' := hm
  simp only [mvs, Bool.and_eq_true, decide_eq_true_eq] at hm'
  obtain ⟨t0, t1⟩ := hm'
  have t0' : 0 ≤ t := Int.le_trans h.n0 t0
  have HM := Lib.hid hm
  have HE0 : Hid (offer s q t = if t < s.nxt q.toNat then ({ s with now := t, drp := s.drp + 1 }, false, 0) else ({ s with now := t, nxt := fun j => if j = q.toNat then t + s.skew + 1 else s.nxt j, del := s.del + 1 }, true, 0)) := Lib.hid (by unfold offer okq; rw [hq, hm]; rfl)
  obtain ⟨i, hi⟩ : ∃ i : Nat, q = i := ⟨q.toNat, by omega⟩
  subst hi
  have hi : i < 256 := by omega
  rw [Int.toNat_natCast] at HE0
  have HS := Lib.hid hs
  have yn := hs.now
  have f0 := hs.free 0
  have fn := (hs.putNow t).free (2 + i)
  have ys := (hs.putNow t).skew
  dsimp only at ys
  have ys2 : ∀ v, ((w.setCell ⟨b, 0, none⟩ (.int .i64 t)).setCell ⟨b, 2 + i, none⟩ (.int .i64 v)).cell? ⟨b, 1, none⟩ = some (.int .i64 s.skew) := fun v => ((hs.putNow t).putNxt hi v).skew
  have YS := Lib.hid ys2
  clear ys2
  have HS2 := Lib.hid (fun v => (hs.putNow t).putNxt hi v)
  have d0 := h.d0
  have k0 := h.k0
  have k1 := h.k1
  have f259 := (hs.putNow t).free 259
  have HS1 := Lib.hid (hs.putNow t)
  have y := (hs.putNow t).nxt hi
  have yd := (hs.putNow t).drp
  dsimp only at y yd
  have x0 := h.x0 i
  have x1 := h.x1 i
  obtain ⟨nx, hnx⟩ : ∃ nx, s.nxt i = nx := ⟨_, rfl⟩
  rw [hnx] at HE0 x0 x1 y
  have r0 := h.r0
  have HH := Lib.hid h
  clear hs hq hm h hnx
  go_enter Try.func17, Try.ntmps17
  go_wp2_with fail
  refine (selMade_yes b w HS.out.own).mono ?_
  rintro e w1 ⟨rfl, rfl⟩
  go_wp2_with fail
  refine (moves_any b s.now t w HS.out.now).mono ?_
  rintro e w1 ⟨rfl, rfl⟩
  rw [HM.out]
  by_cases hlt : t < nx
  · have HE : Hid (offer s i t = ({ s with now := t, drp := s.drp + 1 }, false, 0)) := Lib.hid (by rw [HE0.out, if_pos hlt])
    clear HE0
    go_wp2_with fail
    go_ret2
    exact ⟨by rw [HE.out]; rfl, by rw [HE.out]; exact HS1.out.putDrp _, gb_put (gb_put (World.grownBy.refl _ _) 0 _) 259 _⟩
  · have HE : Hid (offer s i t = ({ s with now := t, nxt := fun j => if j = i then t + s.skew + 1 else s.nxt j, del := s.del + 1 }, true, 0)) := Lib.hid (by rw [HE0.out, if_neg hlt])
    clear HE0
    obtain ⟨sk, hsk⟩ : ∃ sk, s.skew = sk := ⟨_, rfl⟩
    have HSK := Lib.hid hsk
    rw [hsk] at ys YS k0 k1 HE
    clear hsk
    have hw1 : IntKind.i64.wrap (IntKind.i64.wrap (t + sk) + 1) = t + sk + 1 := by rw [IntWalk.i64_in (t + sk) (by omega), IntWalk.i64_in _ (by omega)]
    go_wp2_with fail
    go_region_held3 (fun w' : World => w'.cell? ⟨b, 1, none⟩ = some (.int .i64 sk)) (first | exact ys | exact YS.out _) (fail)
    obtain ⟨W, hW⟩ : ∃ W, ((w.setCell ⟨b, 0, none⟩ (.int .i64 t)).setCell ⟨b, 2 + i, none⟩ (.int .i64 (t + sk + 1))).drew = W := ⟨_, rfl⟩
    have S2 : SelW W b { s with now := t, nxt := fun j => if j = i then t + sk + 1 else s.nxt j } := by rw [← hW]; exact HS2.out _
    have G2 : w.grownBy W (some b) := by rw [← hW]; exact gb_drew (gb_put (gb_put (World.grownBy.refl _ _) 0 _) (2 + i) _)
    have yd2 := S2.del
    have f258 := S2.free 258
    have HS3 := Lib.hid S2
    have HG := Lib.hid G2
    dsimp only at yd2
    first | rw [hW] | (change Exit.then _ _ _ _ W)
    rename_i hHeld
    clear hHeld hW S2 G2 hw1 y ys yn fn f0 f259 yd
    go_wp2_with fail
    go_ret2
    exact ⟨by rw [HE.out]; rfl, by rw [HE.out]; have := HS3.out.putDel (s.del + 1); rw [HSK.out] at this; exact this, gb_put HG.out 258 _⟩
theorem offer_any (b : Nat) (s : St) (q t : Int) (w : World) (hs : SelW w b s) (h : s.Ok) (hd : s.del ≤ 1000000000000) (hr : s.drp ≤ 1000000000000) :
    Calls Try.prog 17 #[.pointer (some ⟨b, 0, none⟩), .int .i64 q, .int .i64 t] w (OffPost b (offer s q t) w) := by
  cases hk : okq s q t with
  | false => exact offer_bad b s q t w hs hk
  | true => exact offer_ok b s q t w hs hk h hd hr
theorem St.Ok.offer {s : St} (h : s.Ok) (q t : Int) : (offer s q t).1.Ok := by
  unfold Ytllabfbebidjiaa.offer
  split
  · rename_i hk
    simp only [okq, Bool.and_eq_true, mvs, decide_eq_true_eq] at hk
    obtain ⟨hq, h0, h1⟩ := hk
    have n0 := h.n0
    have k0 := h.k0
    have k1 := h.k1
    have d0 := h.d0
    have r0 := h.r0
    split
    · exact ⟨by show 0 ≤ t; omega, h1, h.k0, h.k1, h.x0, h.x1, h.d0, by show 0 ≤ s.drp + 1; omega⟩
    · refine ⟨by show 0 ≤ t; omega, h1, h.k0, h.k1, fun i => ?_, fun i => ?_, by show 0 ≤ s.del + 1; omega, h.r0⟩
      · show 0 ≤ if i = q.toNat then t + s.skew + 1 else s.nxt i
        split
        · omega
        · exact h.x0 i
      · show (if i = q.toNat then t + s.skew + 1 else s.nxt i) ≤ 2147483649
        split
        · omega
        · exact h.x1 i
  · exact h
theorem offer_cnt (s : St) (q t : Int) : (offer s q t).1.del + (offer s q t).1.drp ≤ s.del + s.drp + 1 := by
  unfold offer
  split
  · split
    · show s.del + (s.drp + 1) ≤ _; omega
    · show s.del + 1 + s.drp ≤ _; omega
  · show s.del + s.drp ≤ _; omega
theorem offer_skew (s : St) (q t : Int) : (offer s q t).1.skew = s.skew := by
  unfold offer
  split
  · split <;> rfl
  · rfl
set_option maxRecDepth 100000 in
set_option maxHeartbeats 1000000 in
theorem offer_nil (q t : Int) (w : World) : Calls Try.prog 17 #[.pointer none, .int .i64 q, .int .i64 t] w fun e w' => e = .returned (.tuple #[.bool false, .int .i64 1]) ∧ w = w' := by
  go_enter Try.func17, Try.ntmps17
  go_wp2_with fail
  refine (selMade_nil w).mono ?_
  rintro e w1 ⟨rfl, rfl⟩
  go_wp2_with fail
  go_ret2
  exact ⟨rfl, rfl⟩
set_option maxRecDepth 100000 in
set_option maxHeartbeats 1000000 in
theorem offer_no (b : Nat) (q t : Int) (w : World) (h : w.cell? ⟨b, 260, none⟩ = some (.pointer none)) : Calls Try.prog 17 #[.pointer (some ⟨b, 0, none⟩), .int .i64 q, .int .i64 t] w fun e w' => e = .returned (.tuple #[.bool false, .int .i64 1]) ∧ w = w' := by
  go_enter Try.func17, Try.ntmps17
  go_wp2_with fail
  refine (selMade_no b w h).mono ?_
  rintro e w1 ⟨rfl, rfl⟩
  go_wp2_with fail
  go_ret2
  exact ⟨rfl, rfl⟩
/-! ### Counts -/
set_option maxRecDepth 100000 in
set_option maxHeartbeats 1000000 in
theorem selCounts_any (b : Nat) (s : St) (w : World) (hs : SelW w b s) : Calls Try.prog 22 #[.pointer (some ⟨b, 0, none⟩)] w fun e w' => e = .returned (.tuple #[.int .i64 s.del, .int .i64 s.drp]) ∧ Same w w' := by
  have yd := hs.del
  have yr := hs.drp
  have HS := Lib.hid hs
  clear hs
  go_enter Try.func22, Try.ntmps22
  go_wp2_with fail
  refine (selMade_yes b w HS.out.own).mono ?_
  rintro e w1 ⟨rfl, rfl⟩
  go_wp2_with (go_quiet (fail))
  go_ret2
  exact ⟨rfl, Same.drewN _ _⟩
set_option maxRecDepth 100000 in
set_option maxHeartbeats 1000000 in
theorem selCounts_nil (w : World) : Calls Try.prog 22 #[.pointer none] w fun e w' => e = .returned (.tuple #[.int .i64 0, .int .i64 0]) ∧ Same w w' := by
  go_enter Try.func22, Try.ntmps22
  go_wp2_with fail
  refine (selMade_nil w).mono ?_
  rintro e w1 ⟨rfl, rfl⟩
  go_wp2_with fail
  go_ret2
  exact ⟨rfl, Same.refl _⟩
set_option maxRecDepth 100000 in
set_option maxHeartbeats 1000000 in
theorem selCounts_no (b : Nat) (w : World) (h : w.cell? ⟨b, 260, none⟩ = some (.pointer none)) : Calls Try.prog 22 #[.pointer (some ⟨b, 0, none⟩)] w fun e w' => e = .returned (.tuple #[.int .i64 0, .int .i64 0]) ∧ Same w w' := by
  go_enter Try.func22, Try.ntmps22
  go_wp2_with fail
  refine (selMade_no b w h).mono ?_
  rintro e w1 ⟨rfl, rfl⟩
  go_wp2_with fail
  go_ret2
  exact ⟨rfl, Same.refl _⟩
end Go.Proofs.Ytllabfbebidjiaa
