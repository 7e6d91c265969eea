/-
  The contract of valid (of a slice of units): are there at most eight units, of different modules. It takes that the modules' names are no longer than a string can be. 
-/
import Derived.Test.YtcjbjhkmnfegnaaC3
import Derived.Maps.OwnOps
import Derived.Maps.OwnSet
import Derived.Maps.Views
import Derived.WideMake
import Derived.WalkArith
namespace Go.Proofs.Ytcjbjhkmnfegnaa
open Go.RowKit Go.Maps
/-- does the module stand among the first k -/
def seen (S : Nat → U) (x : ByteArray) : Nat → Bool
  | 0 => false
  | k + 1 => seen S x k || decide ((S k).1 = x)
/-- are the modules of the first k units different -/
def dis (S : Nat → U) : Nat → Bool
  | 0 => true
  | k + 1 => dis S k && !seen S (S k).1 k
abbrev kl (x : ByteArray) : Lit := .string x.data.toList
theorem kl_ne {x y : ByteArray} (h : x ≠ y) : kl x ≠ kl y := fun e => h (ByteArray.ext (Array.toList_inj.1 (by injection e)))
/-- what the map of counts holds of the first k units -/
structure Cnt (S : Nat → U) (k : Nat) (D : DataW Unit) : Prop where
  hs : ∀ x, has D (kl x) = seen S x k
  le : size D ≤ k
  eq : decide (size D = k) = dis S k
  val : ∀ x c, D.atKey (kl x) (.lit (.int .i64 0)) = .lit (.int .i64 c) → 0 ≤ c ∧ c ≤ k
theorem Cnt.start (S : Nat → U) : Cnt S 0 (.map []) :=
  ⟨fun _ => rfl, Nat.le_refl _, rfl, fun x c h => by
    simp [DataW.atKey] at h
    omega⟩
theorem Cnt.step {S : Nat → U} {k : Nat} {D : DataW Unit} (h : Cnt S k D) (hT : Tidy D) {c : Int} (hc : D.atKey (kl (S k).1) (.lit (.int .i64 0)) = .lit (.int .i64 c)) : Cnt S (k + 1) (D.put (kl (S k).1) (.lit (.int .i64 (c + 1)))) := by
  have hsz := size_put (k := kl (S k).1) hT (.lit (.int .i64 (c + 1)))
  rw [h.hs] at hsz
  refine ⟨fun x => ?_, ?_, ?_, fun x c' hx => ?_⟩
  · by_cases e : (S k).1 = x
    · subst e
      rw [has_put_same (k := kl (S k).1) hT.isMap (by simp [WideAt.IsKeyLit])]
      simp [seen]
    · rw [has_put_other (kl_ne (Ne.symm e)), h.hs]
      simp [seen, e]
  · rw [hsz]
    have := h.le
    split <;> omega
  · rw [hsz]
    have h1 := h.le
    have h2 := h.eq
    simp only [dis]
    rw [← h2]
    cases hse : seen S (S k).1 k with
    | true => simp; omega
    | false => simp
  · by_cases e : (S k).1 = x
    · subst e
      rw [atKey_put_same (k := kl (S k).1) hT.isMap (by simp [WideAt.IsKeyLit])] at hx
      injection hx with hx
      injection hx with _ hx
      have := h.val _ _ hc
      omega
    · rw [atKey_put_other (kl_ne (Ne.symm e))] at hx
      have := h.val _ _ hx
      omega

theorem wf64 {n : Int} (h0 : -9223372036854775808 ≤ n) (h1 : n ≤ 9223372036854775807) : (Lit.int .i64 n).wf = true := WalkArith.wf_i64 ⟨h0, h1⟩
theorem law9 : Keyed Try.prog 9 := string_keyed Try.underlying9
theorem zero3 (w : World) : (zeroValue 3).run Try.prog w = .ok (.int .i64 0) w := by kernel_rfl
theorem key9 {x : ByteArray} (h : x.size ≤ maxLen) : keyOf Try.prog 9 (.string x) = some (kl x) := by
  simp [keyOf, Try.underlying9, mapKey, h]

/-- the modules' names are strings that can be -/
def Fits (S : Nat → U) (n : Nat) : Prop := ∀ k, k < n → (S k).1.size ≤ maxLen

set_option maxHeartbeats 1000000 in
theorem valid_any (A : Option Addr) (n c : Nat) (S : Nat → U) (w : World) (hU : UnitsIn w A n S) (hF : Fits S n) (hn : n ≤ 140737488355328) :
    Calls Try.prog 32 #[.slice A n c] w fun e w' => e = .returned (.bool (decide (n ≤ 8) && dis S n)) ∧ Below w.heap.size w w' := by
  obtain ⟨n1, hU⟩ := hU
  have HU := Lib.hid hU
  have HF := Lib.hid hF
  clear hU hF
  have hmm := @run_makeMap_plain Try.prog
  go_enter Try.func32, Try.ntmps32
  go_wp2_with fail
  clear hmm
  go_loopw [9] (fun i wr => ∃ (k : Nat) (D : DataW Unit), k ≤ n ∧ i = .int .i64 k ∧ wr.ownsMap Try.prog 9 (plainElem Try.prog 3) w.heap.size k D ∧ Cnt S k D ∧ Below w.heap.size w wr)
    (fun i _ => n - (intOf i).toNat)
  case atStart => exact ⟨0, .map [], Nat.zero_le _, rfl, World.ownsMap_made _ _ _ _, Cnt.start S, (Below.refl _ _).alloc (Nat.le_refl _) _⟩
  case round =>
    obtain ⟨k, D, hk, rfl, hown, hcnt, kr⟩ := hrel
    have HC := Lib.hid hcnt
    have KR := Lib.hid kr
    clear hcnt kr
    by_cases hlt : k < n
    · obtain ⟨ob, off, rfl, hb, hcell⟩ := HU.out (by omega)
      obtain ⟨c0, c1⟩ := hcell k hlt
      have y0 : wr.cell? ⟨ob, off + k * 2, none⟩ = some (.string (S k).1) := (KR.out.cell (p := ⟨ob, off + k * 2, none⟩) hb).trans c0
      have y1 : wr.cell? ⟨ob, off + k * 2 + 1, none⟩ = some (.int .i64 (S k).2) := (KR.out.cell (p := ⟨ob, off + k * 2 + 1, none⟩) hb).trans c1
      clear hcell c0 c1
      have hkey := Lib.hid (key9 (HF.out k hlt))
      have hT := Lib.hid (hown.tidy law9)
      have KA := Lib.hid (KR.out.alloc KR.out.size (.cells #[.string (S k).1, .int .i64 (S k).2] 40))
      go_wp2_with (first
        | (at_lookup; refine wpList_lookup_own_int _ rfl _ _ 72 rfl 9 3 .i64 law9 Try.underlying72 Try.underlying3 (zero3 _) w.heap.size k _ rfl (hown.alloc _) _ _ rfl hkey.out ?_; intro cv hat hwc; obtain ⟨v0, v1⟩ := HC.out.val _ _ hat; have HAT := Lib.hid hat; clear hat hwc)
        | (at_mapUpdate; refine wpList_mapUpdate_own _ rfl _ _ _ 72 rfl 9 3 law9 Try.underlying72 _ w.heap.size k _ rfl (hown.alloc _) (by unfold maxLen; omega) _ _ _ rfl rfl hkey.out _ [] (plainElem_int Try.underlying3 (wf64 (by omega) (by omega))) ?_; intro w1 hown1 hgrow1))
      have HCS := Lib.hid (HC.out.step hT.out HAT.out)
      have KG := Lib.hid (KA.out.grown hgrow1 KA.out.size (fun j e => by cases e; exact Nat.le_refl _))
      go_roundw
      case rel => exact ⟨k + 1, _, by omega, by go_num, hown1, HCS.out, KG.out⟩
      case measure => simp [intOf]; omega
    · obtain rfl : k = n := by omega
      have hlen := hown.len Try.underlying72 3
      have hle := HC.out.le
      have heq := Lib.hid HC.out.eq
      obtain ⟨sz, hsz⟩ : ∃ sz, size D = sz := ⟨_, rfl⟩
      rw [hsz] at hlen hle heq
      by_cases h8 : k ≤ 8
      · by_cases hs : sz = k
        · subst hs
          have hd : Hid (dis S sz = true) := Lib.hid (by rw [← heq.out]; simp)
          clear hsz
          go_wp2_with fail
          go_ret
          exact ⟨by simp [hd.out], KR.out⟩
        · have hd : Hid (dis S k = false) := Lib.hid (by rw [← heq.out]; simpa using hs)
          have hs' : (sz == k) = false := by simpa using hs
          have hs2 : ((sz : Int) == (k : Int)) = false := by simpa using (show (sz : Int) ≠ k by omega)
          go_wp2_with fail
          go_ret
          exact ⟨by simp [hd.out], KR.out⟩
      · go_wp2_with fail
        go_ret
        exact ⟨by simp, KR.out⟩
end Go.Proofs.Ytcjbjhkmnfegnaa
