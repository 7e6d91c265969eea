/-
  Bytes that make has made, as a string. No condition but a bound.
-/
import Derived.Test.YtcjbjhkmnfegnaaUs
import Derived.Laws.BytesString
import Derived.Laws.MakeOwn
import Derived.Laws.Cells
namespace Go.Proofs.Ytcjbjhkmnfegnaa
open Go.RowKit Go.Shelf
theorem Try.info5' : (Try.prog.info? 5).map (fun i => (i.zero, i.size, i.bytes)) = some (some (.int .u8 0), 1, 1) := by kernel_rfl
def zb (k : Nat) : Array Value := madeCells #[.int .u8 0] k
def zs (k : Nat) : ByteArray := (List.replicate k (0 : Int)).foldl (fun r n => r.push (UInt8.ofNat n.toNat)) ByteArray.empty
theorem zb_list (k : Nat) : (zb k).toList = (List.replicate k (0 : Int)).map (Value.int .u8) := by
  apply List.ext_getElem?
  intro j
  unfold zb madeCells
  by_cases h : j < k
  · simp [h, Nat.mod_one]
  · simp [h]
theorem push_size (l : List Int) : ∀ (b : ByteArray), (l.foldl (fun r n => r.push (UInt8.ofNat n.toNat)) b).size = b.size + l.length := by
  induction l with
  | nil => intro b; rfl
  | cons x l ih =>
    intro b
    rw [List.foldl_cons, ih, ByteArray.size_push, List.length_cons]
    omega
theorem zs_size (k : Nat) : (zs k).size = k := by
  unfold zs
  rw [push_size]
  simp
theorem mk43 (k : Nat) (hk : k ≤ 100) (w : World) : (Instr.makeSlice 43 (.int .i64 (k : Int)) (.int .i64 (k : Int))).run Try.prog w = .ok (.slice (some ⟨w.heap.size, 0, none⟩) k k) (w.alloc (.cells (zb k) 5)) := by
  obtain ⟨i0, hi, hz0, hz1, hz2⟩ := info_parts Try.info5'
  have h := run_makeSlice (P := Try.prog) w 43 5 i0 _ Try.underlying43 hi hz0 .i64 .i64 (k : Int) (k : Int) (by omega) (Int.le_refl _) (by rw [hz1]; omega) (by rw [hz2]; omega) (by omega)
  rw [h, hz1]
  simp [zb, Value.cells]
theorem mk43p (k : Nat) (hk : k ≤ 60) (w : World) : (Instr.makeSlice 43 (.int .i64 ((k : Int) + 40)) (.int .i64 ((k : Int) + 40))).run Try.prog w = .ok (.slice (some ⟨w.heap.size, 0, none⟩) (k + 40) (k + 40)) (w.alloc (.cells (zb (k + 40)) 5)) := by
  have h := mk43 (k + 40) (by omega) w
  rwa [show ((k + 40 : Nat) : Int) = (k : Int) + 40 from by push_cast; rfl] at h
def lenV : Value → Nat
  | .slice _ n _ => n
  | _ => 0
theorem cv43 {W : World} {g k : Nat} (hb : Blk W g 5 (zb k)) : (convert 43 9 (.slice (some ⟨g, 0, none⟩) k k)).run Try.prog W = .ok (.string (zs k)) W := by
  rw [run_convert_bytes_string W 43 9 5 _ _ _ Try.underlying43 Try.underlying5 Try.underlying9]
  refine run_bytesToString W _ _ _ (List.replicate k 0) ?_
  have h := run_loadCells_list (P := Try.prog) (w := W) ⟨g, 0, none⟩ ((zb k).toList) (fun j v hj => by
    rw [add_eq, Nat.zero_add, hb.cell]
    simpa using hj)
  rw [zb_list] at h
  simpa using h
end Go.Proofs.Ytcjbjhkmnfegnaa
