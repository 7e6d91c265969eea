/-
  Contracts around the filter (package integrity): New, made, count, the four conditions of Accept, and 'one of them holds' (one, slices.ContainsFunc, slices.IndexFunc over function values). No condition.
-/
import Derived.Test.YtllabfbebidjiaaI1
import Derived.Deep.RegionWith
import Derived.Deep.RegionHeld3
import Derived.LaidEqlPtr
namespace Go.Proofs.Ytllabfbebidjiaa
open Go.RowKit

/-- memory and machine as they were (draws aside) -/
def Same (w w' : World) : Prop := w'.heap = w.heap ∧ w'.os = w.os ∧ w'.tape = w.tape ∧ w'.output = w.output
theorem Same.refl (w : World) : Same w w := ⟨rfl, rfl, rfl, rfl⟩
theorem Same.of_eq {w w' : World} (h : w = w') : Same w w' := by subst h; exact Same.refl w
theorem Same.trans {a b c : World} (h : Same a b) (k : Same b c) : Same a c := ⟨k.1.trans h.1, k.2.1.trans h.2.1, k.2.2.1.trans h.2.2.1, k.2.2.2.trans h.2.2.2⟩
theorem Same.drewN (w : World) (n : Nat) : Same w (w.drewN n) := ⟨rfl, rfl, rfl, rfl⟩
theorem Same.cell {w w' : World} (h : Same w w') {p : Addr} {v : Value} (hc : w.cell? p = some v) : w'.cell? p = some v := (World.cell?_of_block (by rw [h.1])).trans hc
theorem Same.blk {w w' : World} (h : Same w w') {g : Nat} {t : TypeId} {cs : Array Value} (hb : Blk w g t cs) : Blk w' g t cs := by unfold Blk; rw [h.1]; exact hb
theorem Same.below {w w' : World} (h : Same w w') : Below w.heap.size w w' := ⟨h.2.1, h.2.2.1, h.2.2.2, by rw [h.1]; exact Nat.le_refl _, fun k _ => by rw [h.1]⟩
theorem Same.size {w w' : World} (h : Same w w') : w'.heap.size = w.heap.size := by rw [h.1]

/-- the filter lies in block fb -/
def Flt (w : World) (fb : Nat) (a r p : Int) (s : Bool) : Prop := Blk w fb 76 #[.int .i64 a, .int .i64 r, .int .i64 p, .bool s, .pointer (some ⟨fb, 0, none⟩)]

set_option maxHeartbeats 400000 in
theorem new_any (w : World) : Calls Try.prog 18 #[] w fun e w' => ∃ fb, e = .returned (.pointer (some ⟨fb, 0, none⟩)) ∧ w.heap.size ≤ fb ∧ Below w.heap.size w w' ∧ Flt w' fb 0 0 0 false := by
  go_enter Try.func18, Try.ntmps18
  go_wp2
  go_ret
  refine ⟨_, rfl, Nat.le_refl _, ?_, ?_⟩
  · exact (Below.refl _ _).alloc (Nat.le_refl _) _
  · exact Blk.made _ _ _

theorem run_eql_nil_ptr {P : Program} (w : World) {tp te : TypeId} (a : Addr) (hp : P.underlying tp = some (.pointer te)) :
    (binOp .eql tp (.pointer none) (.pointer (some a))).run P w = .ok (.bool false) w := by
  have h : ∀ d : Nat, (Op.equalIn (d + 1) tp (.pointer none) (.pointer (some a))).run P w = .ok false w := fun d => by
    simp [Op.equalIn, run_underlying hp]
  simp only [binOp]
  simp [Op.equal, Op.maxDepth, h 9999]
theorem infoFlt : (Try.prog.info? 76).isSome = true := by kernel_rfl

set_option maxRecDepth 100000 in
set_option maxHeartbeats 400000 in
theorem made_yes (fb : Nat) (a r p : Int) (s : Bool) (w : World) (hf : Flt w fb a r p s) : Calls Try.prog 28 #[.pointer (some ⟨fb, 0, none⟩)] w fun e w' => e = .returned (.bool true) ∧ w = w' := by
  have c4 : w.cell? ⟨fb, 4, none⟩ = some (.pointer (some ⟨fb, 0, none⟩)) := hf.cell 4
  clear hf
  go_enter Try.func28, Try.ntmps28
  obtain ⟨j, hj⟩ := Option.isSome_iff_exists.1 infoFlt
  go_wp2
  rw [run_eql_ptr_same w ⟨fb, 0, none⟩ Try.underlying49 hj]
  go_wp2
  go_ret
  exact ⟨rfl, rfl⟩
set_option maxRecDepth 100000 in
set_option maxHeartbeats 400000 in
theorem made_nil (w : World) : Calls Try.prog 28 #[.pointer none] w fun e w' => e = .returned (.bool false) ∧ w = w' := by
  go_enter Try.func28, Try.ntmps28
  go_wp2
  go_ret
  exact ⟨rfl, rfl⟩
set_option maxRecDepth 100000 in
set_option maxHeartbeats 400000 in
theorem made_no (fb : Nat) (w : World) (hf : w.cell? ⟨fb, 4, none⟩ = some (.pointer none)) : Calls Try.prog 28 #[.pointer (some ⟨fb, 0, none⟩)] w fun e w' => e = .returned (.bool false) ∧ w = w' := by
  go_enter Try.func28, Try.ntmps28
  go_wp2
  rw [run_eql_nil_ptr w ⟨fb, 0, none⟩ Try.underlying49]
  go_wp2
  go_ret
  exact ⟨rfl, rfl⟩

/-! ### the four conditions -/
set_option maxHeartbeats 400000 in
theorem cond1 (qb fb : Nat) (a r p : Int) (s : Bool) (w : World) (hq : w.cell? ⟨qb, 0, none⟩ = some (.pointer (some ⟨fb, 0, none⟩))) (hf : Flt w fb a r p s) :
    Calls Try.prog 30 #[.pointer (some ⟨qb, 0, none⟩)] w fun e w' => e = .returned (.bool (!s)) ∧ Same w w' := by
  have c3 : w.cell? ⟨fb, 3, none⟩ = some (.bool s) := hf.cell 3
  clear hf
  go_enter Try.func30, Try.ntmps30
  go_wp2
  go_ret
  exact ⟨rfl, Same.refl _⟩
set_option maxHeartbeats 400000 in
theorem cond2 (nb : Nat) (n : Int) (w : World) (hn : w.cell? ⟨nb, 0, none⟩ = some (.int .i64 n)) :
    Calls Try.prog 31 #[.pointer (some ⟨nb, 0, none⟩)] w fun e w' => e = .returned (.bool (decide (n = 0))) ∧ Same w w' := by
  by_cases h : n = 0
  · subst h
    go_enter Try.func31, Try.ntmps31
    go_wp2
    go_ret
    exact ⟨rfl, Same.refl _⟩
  · have h' : (n == 0) = false := by simpa using h
    have hb : Hid (decide (n = 0) = false) := Lib.hid (by simpa using h)
    clear h
    go_enter Try.func31, Try.ntmps31
    go_wp2
    go_ret
    exact ⟨ret_bool hb.out.symm, Same.refl _⟩

set_option maxHeartbeats 1000000 in
theorem cond3 (nb qb fb : Nat) (n a r p : Int) (s : Bool) (w : World) (hn : w.cell? ⟨nb, 0, none⟩ = some (.int .i64 n)) (hq : w.cell? ⟨qb, 0, none⟩ = some (.pointer (some ⟨fb, 0, none⟩))) (hf : Flt w fb a r p s) :
    Calls Try.prog 32 #[.pointer (some ⟨nb, 0, none⟩), .pointer (some ⟨qb, 0, none⟩)] w fun e w' => e = .returned (.bool (decide (n = nx p))) ∧ Same w w' := by
  have c2 : w.cell? ⟨fb, 2, none⟩ = some (.int .i64 p) := hf.cell 2
  clear hf
  obtain ⟨q, hq'⟩ : ∃ q, nx p = q := ⟨_, rfl⟩
  have HQ := Lib.hid hq'
  rw [hq']
  clear hq'
  by_cases h : n = q
  · subst h
    go_enter Try.func32, Try.ntmps32
    go_wp2_with fail
    go_quiet ((go_at_call 14; exact Calls.quiet_of_same ((next_any _ _).mono fun _ _ h => ⟨by rw [h.1, HQ.out], h.2.symm⟩)))
    go_wp2_with fail
    go_ret
    exact ⟨by simp, Same.drewN _ _⟩
  · have h' : (n == q) = false := by simpa using h
    have hb : Hid (decide (n = q) = false) := Lib.hid (by simpa using h)
    clear h
    go_enter Try.func32, Try.ntmps32
    go_wp2_with fail
    go_quiet ((go_at_call 14; exact Calls.quiet_of_same ((next_any _ _).mono fun _ _ h => ⟨by rw [h.1, HQ.out], h.2.symm⟩)))
    go_wp2_with fail
    go_ret
    exact ⟨ret_bool hb.out.symm, Same.drewN _ _⟩

set_option maxHeartbeats 1000000 in
theorem cond4 (nb qb fb : Nat) (n a r p : Int) (s : Bool) (w : World) (hn : w.cell? ⟨nb, 0, none⟩ = some (.int .i64 n)) (hq : w.cell? ⟨qb, 0, none⟩ = some (.pointer (some ⟨fb, 0, none⟩))) (hf : Flt w fb a r p s) :
    Calls Try.prog 33 #[.pointer (some ⟨nb, 0, none⟩), .pointer (some ⟨qb, 0, none⟩)] w fun e w' => e = .returned (.bool (decide (n = nx (nx p)))) ∧ Same w w' := by
  have c2 : w.cell? ⟨fb, 2, none⟩ = some (.int .i64 p) := hf.cell 2
  clear hf
  by_cases h : n = nx (nx p)
  · subst h
    go_enter Try.func33, Try.ntmps33
    go_wp2_with fail
    go_quiet ((go_at_call 14; exact Calls.quiet_of_same ((next_any _ _).mono fun _ _ h => ⟨h.1, h.2.symm⟩)))
    go_wp2_with fail
    go_ret
    exact ⟨by simp, Same.drewN _ _⟩
  · have h' : (n == nx (nx p)) = false := by simpa using h
    have hb : Hid (decide (n = nx (nx p)) = false) := Lib.hid (by simpa using h)
    clear h
    go_enter Try.func33, Try.ntmps33
    go_wp2_with fail
    go_quiet ((go_at_call 14; exact Calls.quiet_of_same ((next_any _ _).mono fun _ _ h => ⟨h.1, h.2.symm⟩)))
    go_wp2_with fail
    go_ret
    exact ⟨ret_bool hb.out.symm, Same.drewN _ _⟩

/-! ### count -/
set_option maxHeartbeats 1000000 in
theorem count_yes (fb : Nat) (a r p : Int) (s : Bool) (w : World) (hf : Flt w fb a r p s) (h0 : 0 ≤ a) (h1 : a ≤ 1000000000000) :
    Calls Try.prog 34 #[.pointer (some ⟨fb, 0, none⟩), .bool true] w fun e w' => (∃ v, e = .returned v) ∧ w.setCell ⟨fb, 0, none⟩ (.int .i64 (a + 1)) = w' := by
  have c0 : w.cell? ⟨fb, 0, none⟩ = some (.int .i64 a) := hf.cell 0
  have f0 : w.frozen? ⟨fb, 0, none⟩ = false := hf.free 0
  clear hf
  go_enter Try.func34, Try.ntmps34
  go_wp2
  go_end0
  exact ⟨⟨_, rfl⟩, rfl⟩
set_option maxHeartbeats 1000000 in
theorem count_no (fb : Nat) (a r p : Int) (s : Bool) (w : World) (hf : Flt w fb a r p s) (h0 : 0 ≤ r) (h1 : r ≤ 1000000000000) :
    Calls Try.prog 34 #[.pointer (some ⟨fb, 0, none⟩), .bool false] w fun e w' => (∃ v, e = .returned v) ∧ w.setCell ⟨fb, 1, none⟩ (.int .i64 (r + 1)) = w' := by
  have c0 : w.cell? ⟨fb, 1, none⟩ = some (.int .i64 r) := hf.cell 1
  have f0 : w.frozen? ⟨fb, 1, none⟩ = false := hf.free 1
  clear hf
  go_enter Try.func34, Try.ntmps34
  go_wp2
  go_end0
  exact ⟨⟨_, rfl⟩, rfl⟩

/-! ### does one of them hold -/
theorem one1 (g : FuncId) (lb : Array Value) (b : Bool) (w : World) (eg : ∀ args w, (callFunc g args).run Try.prog w = .ok (.enter g args) w) (h : Calls Try.prog g lb w fun e w' => e = .returned (.bool b) ∧ Same w w') :
    Calls Try.prog 44 #[.func (.func g) #[] lb] w fun e w' => e = .returned (.bool b) ∧ Same w w' := by
  go_enter Try.func44, Try.ntmps44
  go_wp2_with fail
  go_wp2_with fail
  refine h.mono ?_
  rintro e w1 ⟨rfl, hs⟩
  go_wp2_with fail
  go_ret
  exact ⟨rfl, hs⟩

set_option maxHeartbeats 1000000 in
theorem index_any (sb N c : Nat) (gs : Nat → FuncId) (ls : Nat → Array Value) (bs : Nat → Bool) (w : World) (hN : N ≤ 1000) (hrow : ∀ k, k < N → w.cell? ⟨sb, k, none⟩ = some (.func (.func (gs k)) #[] (ls k)))
    (hh : ∀ k, k < N → ∀ W, Same w W → Calls Try.prog 44 #[.func (.func (gs k)) #[] (ls k)] W fun e W' => e = .returned (.bool (bs k)) ∧ Same W W') :
    Calls Try.prog 49 #[.slice (some ⟨sb, 0, none⟩) N c, .func (.func 44) #[] #[]] w fun e w' => Same w w' ∧
      ((∃ k : Nat, k < N ∧ bs k = true ∧ e = .returned (.int .i64 (k : Int))) ∨ ((∀ j, j < N → bs j = false) ∧ e = .returned (.int .i64 (-1)))) := by
  have HR := Lib.hid hrow
  have HH := Lib.hid hh
  clear hrow hh
  go_enter Try.func49, Try.ntmps49
  go_wp2_with fail
  go_loopw [8] (fun i wr => ∃ k : Nat, k ≤ N ∧ i = .int .i64 k ∧ (∀ j, j < k → bs j = false) ∧ Same w wr)
    (fun i _ => N - (intOf i).toNat)
  case atStart => exact ⟨0, Nat.zero_le _, rfl, fun j hj => by omega, Same.refl _⟩
  case round =>
    obtain ⟨k, hk, rfl, hb, hs⟩ := hrel
    have HB := Lib.hid hb
    have HS := Lib.hid hs
    clear hb hs
    by_cases hlt : k < N
    · have y0 : wr.cell? ⟨sb, k, none⟩ = some (.func (.func (gs k)) #[] (ls k)) := HS.out.cell (HR.out k hlt)
      cases hbk : bs k with
      | true =>
        have HBk := Lib.hid hbk
        clear hbk
        go_wp2_with fail
        refine (HH.out k hlt wr HS.out).mono ?_
        rintro e w1 ⟨rfl, hs1⟩
        rw [HBk.out]
        go_wp2_with fail
        go_ret
        exact ⟨HS.out.trans hs1, .inl ⟨k, hlt, HBk.out, rfl⟩⟩
      | false =>
        have HBk := Lib.hid hbk
        clear hbk
        go_wp2_with fail
        refine (HH.out k hlt wr HS.out).mono ?_
        rintro e w1 ⟨rfl, hs1⟩
        rw [HBk.out]
        go_wp2_with fail
        go_roundw
        case rel => exact ⟨k + 1, by omega, by go_num, fun j hj => (Nat.lt_or_ge j k).elim (HB.out j) (fun h => (by have e : j = k := (by omega); subst e; exact HBk.out)), HS.out.trans hs1⟩
        case measure => simp [intOf]; omega
    · obtain rfl : k = N := by omega
      go_wp2_with fail
      go_ret
      exact ⟨HS.out, .inr ⟨HB.out, rfl⟩⟩
end Go.Proofs.Ytllabfbebidjiaa
