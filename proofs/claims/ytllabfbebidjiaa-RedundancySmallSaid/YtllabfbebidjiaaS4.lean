/-
  Merge (package redundancy): arrivals that came in, what Merge computes (mst, mout), what its memory holds (MW). No condition.
-/
import Derived.Test.YtllabfbebidjiaaS3
namespace Go.Proofs.Ytllabfbebidjiaa
open Go.RowKit
/-- a slice of arrivals: the networks N, the numbers Q, the times T -/
def ArrIn (w : World) (A : Option Addr) (n : Nat) (N Q T : Nat → Int) : Prop :=
  n ≤ 9223372036854775807 ∧ (0 < n → ∃ b off, A = some ⟨b, off, none⟩ ∧ b < w.heap.size ∧
    ∀ k, k < n → w.cell? ⟨b, off + k * 3, none⟩ = some (.int .i64 (N k)) ∧ w.cell? ⟨b, off + k * 3 + 1, none⟩ = some (.int .i64 (Q k)) ∧ w.cell? ⟨b, off + k * 3 + 2, none⟩ = some (.int .i64 (T k)))
theorem ArrIn.kept {w w' : World} {A : Option Addr} {n B : Nat} {N Q T : Nat → Int} (h : ArrIn w A n N Q T) (hb : Below B w w') (hB : w.heap.size ≤ B) : ArrIn w' A n N Q T := by
  refine ⟨h.1, fun hn => ?_⟩
  obtain ⟨b, off, hA, hlt, hc⟩ := h.2 hn
  have hl := Nat.lt_of_lt_of_le hlt hB
  exact ⟨b, off, hA, Nat.lt_of_lt_of_le hlt hb.size, fun k hk => ⟨(hb.cell (p := ⟨b, off + k * 3, none⟩) hl).trans (hc k hk).1, (hb.cell (p := ⟨b, off + k * 3 + 1, none⟩) hl).trans (hc k hk).2.1, (hb.cell (p := ⟨b, off + k * 3 + 2, none⟩) hl).trans (hc k hk).2.2⟩⟩
/-! ### what Merge computes -/
structure MS where
  sel : St
  now : Int
  p : Nat → Int
  so : Nat → Bool
def mgOk (now net seq time : Int) : Bool := (decide (0 ≤ net) && decide (net ≤ 1)) && (mvs now time && isN seq)
def mgStep (m : MS) (net seq time : Int) : MS × Bool :=
  if adm (m.so net.toNat) (m.p net.toNat) seq = true then
    ({ sel := (offer m.sel seq time).1, now := time, p := fun j => if j = net.toNat then seq else m.p j, so := fun j => if j = net.toNat then true else m.so j }, (offer m.sel seq time).2.1)
  else ({ sel := m.sel, now := time, p := fun j => if j = net.toNat then seq else m.p j, so := fun j => if j = net.toNat then true else m.so j }, false)
section
variable (skew : Int) (N Q T : Nat → Int)
def mst : Nat → MS
  | 0 => ⟨.new skew, 0, fun _ => 0, fun _ => false⟩
  | k + 1 => (mgStep (mst k) (N k) (Q k) (T k)).1
def mout : Nat → List Bool
  | 0 => []
  | k + 1 => mout k ++ [(mgStep (mst skew N Q T k) (N k) (Q k) (T k)).2]
def mok (k : Nat) : Bool := mgOk (mst skew N Q T k).now (N k) (Q k) (T k)
end
variable {skew : Int} {N Q T : Nat → Int}
theorem mout_len : ∀ k, (mout skew N Q T k).length = k
  | 0 => rfl
  | k + 1 => by rw [mout, List.length_append, mout_len k]; rfl
theorem mgStep_sel (m : MS) (net seq time : Int) : (mgStep m net seq time).1.sel = m.sel ∨ (mgStep m net seq time).1.sel = (offer m.sel seq time).1 := by
  unfold mgStep
  split
  · exact .inr rfl
  · exact .inl rfl
theorem mst_ok (h0 : 0 ≤ skew) (h1 : skew ≤ 1073741824) : ∀ k, (mst skew N Q T k).sel.Ok
  | 0 => St.Ok.new h0 h1
  | k + 1 => by
    rw [mst]
    rcases mgStep_sel (mst skew N Q T k) (N k) (Q k) (T k) with h | h
    · rw [h]; exact mst_ok h0 h1 k
    · rw [h]; exact (mst_ok h0 h1 k).offer _ _
theorem mst_cnt : ∀ k, (mst skew N Q T k).sel.del + (mst skew N Q T k).sel.drp ≤ k
  | 0 => by simp [mst, St.new]
  | k + 1 => by
    have h2 := mst_cnt k
    have h3 := offer_cnt (mst skew N Q T k).sel (Q k) (T k)
    rw [mst]
    rcases mgStep_sel (mst skew N Q T k) (N k) (Q k) (T k) with h | h <;> rw [h] <;> omega
theorem mst_now (k : Nat) : (mst skew N Q T (k + 1)).now = T k := by
  rw [mst]
  unfold mgStep
  split <;> rfl
/-! ### its memory -/
/-- the entry of the table for the filter in block f -/
def acc (f : Nat) : Value := .func (.func 19) #[.pointer (some ⟨f, 0, none⟩)] #[]
structure MW (W : World) (sb : Nat) (fl : Nat → Nat) (tb cb k : Nat) (m : MS) : Prop where
  sel : SelW W sb m.sel
  flt : ∀ j, j < 2 → ∃ a r, Flt W (fl j) a r (m.p j) (m.so j) ∧ 0 ≤ a ∧ 0 ≤ r ∧ a + r ≤ k
  tab : Blk W tb 71 #[acc (fl 0), acc (fl 1)]
  clk : Blk W cb 55 #[.int .i64 m.now]
  ne : fl 0 ≠ fl 1
theorem Blk.ne_ {w : World} {g g' : Nat} {t t' : TypeId} {cs cs' : Array Value} (h : Blk w g t cs) (h' : Blk w g' t' cs') (hne : t ≠ t') : g ≠ g' := by
  rintro rfl
  unfold Blk at h h'
  rw [h] at h'
  injection h' with h'
  injection h' with _ ht
  exact hne ht
end Go.Proofs.Ytllabfbebidjiaa
