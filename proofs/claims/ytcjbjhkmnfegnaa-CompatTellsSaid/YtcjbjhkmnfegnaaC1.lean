/-
  Contracts of Works (package compat) and of its inner function names. No condition.
-/
import Derived.Test.YtcjbjhkmnfegnaaProg
import Derived.Test.YtcjbjhkmnfegnaaMem
import Derived.WalkSpells
import Derived.WalkLawsBesides
import Derived.Deep.QuietTactic
import Derived.BigQuiet
import Derived.Lib.Hide
import Derived.Outline
import Derived.Deep.RegionWith
import Derived.Deep.RegionHeld3
namespace Go.Proofs.Ytcjbjhkmnfegnaa
open Go.RowKit
/-- a unit: its module, its version -/
abbrev U := ByteArray × Int
/-- a row: two units -/
abbrev R := U × U
abbrev uV (u : U) : Value := .agg #[.string u.1, .int .i64 u.2]
abbrev rV (r : R) : Value := .agg #[.string r.1.1, .int .i64 r.1.2, .string r.2.1, .int .i64 r.2.2]
/-- does the row concern the modules of u and v, in this order -/
def hit (r : R) (u v : U) : Bool := decide (r.1.1 = u.1) && decide (r.2.1 = v.1)
/-- does the row name u and v, in this order -/
def exa (r : R) (u v : U) : Bool := hit r u v && ((r.1.2 == u.2) && (r.2.2 == v.2))

theorem str_eq (a b : ByteArray) : (a.toList == b.toList) = decide (a = b) := by
  rw [Bool.eq_iff_iff]
  simp only [beq_iff_eq, decide_eq_true_eq]
  refine ⟨fun h => ?_, fun h => by rw [h]⟩
  rw [ByteArray.toList_eq, ByteArray.toList_eq] at h
  exact ByteArray.ext (Array.toList_inj.1 h)
theorem str_ne {a b : ByteArray} (h : ¬ a = b) : (a.toList == b.toList) = false := by rw [str_eq]; exact decide_eq_false h
set_option maxHeartbeats 1000000 in
theorem names_any (r : R) (u v : U) (cb : Nat) (c : Bool) (w : World) (hc : Blk w cb 4 #[.bool c]) :
    Calls Try.prog 34 #[rV r, uV u, uV v, .pointer (some ⟨cb, 0, none⟩)] w fun e w' => e = .returned (.bool (exa r u v)) ∧ Blk w' cb 4 #[.bool (c || hit r u v)] ∧ w.grownBy w' (some cb) := by
  obtain ⟨⟨ra, rv⟩, ⟨rb, rw'⟩⟩ := r
  obtain ⟨ua, uv⟩ := u
  obtain ⟨va, vv⟩ := v
  have hlt := hc.lt
  obtain ⟨W, hW⟩ : ∃ W, ((w.alloc (.cells #[.string ra, .int .i64 rv, .string rb, .int .i64 rw'] 37)).alloc (.cells #[.string ua, .int .i64 uv] 40)).alloc (.cells #[.string va, .int .i64 vv] 40) = W := ⟨_, rfl⟩
  have hcW : Blk W cb 4 #[.bool c] := by rw [← hW]; exact ((hc.alloc _).alloc _).alloc _
  have hgW : w.grownBy W (some cb) := by rw [← hW]; exact gb_alloc (gb_alloc (gb_alloc (World.grownBy.refl _ _) _) _) _
  have c0 : (((w.alloc (.cells #[.string ra, .int .i64 rv, .string rb, .int .i64 rw'] 37)).alloc (.cells #[.string ua, .int .i64 uv] 40)).alloc (.cells #[.string va, .int .i64 vv] 40)).cell? ⟨cb, 0, none⟩ = some (.bool c) := by rw [hW]; exact hcW.cell 0
  have f0 : (((w.alloc (.cells #[.string ra, .int .i64 rv, .string rb, .int .i64 rw'] 37)).alloc (.cells #[.string ua, .int .i64 uv] 40)).alloc (.cells #[.string va, .int .i64 vv] 40)).frozen? ⟨cb, 0, none⟩ = false := by rw [hW]; exact hcW.free 0
  have n0 : ¬ w.heap.size = cb := by omega
  have n1 : ¬ w.heap.size + 1 = cb := by omega
  have n2 : ¬ w.heap.size + 1 + 1 = cb := by omega
  have HCW := Lib.hid hcW
  have HGW := Lib.hid hgW
  have HW := Lib.hid hW
  clear hc hcW hgW hW
  by_cases h1 : ra = ua
  · subst h1
    by_cases h2 : rb = va
    · subst h2
      by_cases h3 : rv = uv
      · subst h3
        go_enter Try.func34, Try.ntmps34
        go_wp2_with fail
        go_ret
        exact ⟨by simp [exa, hit], by rw [HW.out]; simpa [hit] using HCW.out.put 0 (.bool true), by rw [HW.out]; exact gb_put HGW.out 0 _⟩
      · have h3' : (rv == uv) = false := by simpa using h3
        go_enter Try.func34, Try.ntmps34
        go_wp2_with fail
        go_ret
        exact ⟨by simp [exa, hit, h3], by rw [HW.out]; simpa [hit] using HCW.out.put 0 (.bool true), by rw [HW.out]; exact gb_put HGW.out 0 _⟩
    · have h2' := str_ne h2
      go_enter Try.func34, Try.ntmps34
      go_wp2_with fail
      go_ret
      exact ⟨by simp [exa, hit, h2], by rw [HW.out]; simpa [hit, h2] using HCW.out, by rw [HW.out]; exact HGW.out⟩
  · have h1' := str_ne h1
    go_enter Try.func34, Try.ntmps34
    go_wp2_with fail
    go_ret
    exact ⟨by simp [exa, hit, h1], by rw [HW.out]; simpa [hit, h1] using HCW.out, by rw [HW.out]; exact HGW.out⟩
/-- the same, spelled out -/
theorem names_ex (ra : ByteArray) (rv : Int) (rb : ByteArray) (rq : Int) (ua : ByteArray) (uv : Int) (va : ByteArray) (vv : Int) (cb : Nat) (c : Bool) (w : World) (hc : Blk w cb 4 #[.bool c]) :
    Calls Try.prog 34 #[.agg #[.string ra, .int .i64 rv, .string rb, .int .i64 rq], .agg #[.string ua, .int .i64 uv], .agg #[.string va, .int .i64 vv], .pointer (some ⟨cb, 0, none⟩)] w fun e w' =>
      e = .returned (.bool (exa ((ra, rv), (rb, rq)) (ua, uv) (va, vv))) ∧ Blk w' cb 4 #[.bool (c || hit ((ra, rv), (rb, rq)) (ua, uv) (va, vv))] ∧ w.grownBy w' (some cb) := names_any _ _ _ cb c w hc
end Go.Proofs.Ytcjbjhkmnfegnaa
