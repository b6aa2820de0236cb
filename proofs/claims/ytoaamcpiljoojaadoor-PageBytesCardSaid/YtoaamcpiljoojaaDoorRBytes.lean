/- redo.Bytes of a right record. -/
import Derived.Test.YtoaamcpiljoojaaDoorWire
import Derived.Test.YtoaamcpiljoojaaDoorValid
namespace Go.Proofs.YtoaamcpiljoojaaDoor
open Go.RowKit

def vints (l : List Int) : List UInt8 := l.flatMap fun n => vint (zig n)
def redoNums (r : Redo) : List Int := [r.lsn, r.back, r.epoch, r.group, r.page, r.kind, r.slot, if r.last then 1 else 0]
def bytesOf (b : List UInt8) : List UInt8 := vint (zig b.length) ++ b
def redoBytes (r : Redo) : List UInt8 := vints (redoNums r) ++ bytesOf r.key ++ bytesOf r.val

theorem vints_len (l : List Int) (h : ∀ n ∈ l, 0 ≤ n ∧ n < 4611686018427387904) : (vints l).length ≤ 9 * l.length := by
  induction l with
  | nil => simp [vints]
  | cons n l ih =>
    have h1 := ih fun m hm => h m (List.mem_cons_of_mem _ hm)
    have h2 := h n List.mem_cons_self
    have h3 := vint_len 9 (zig n) (by decide) (by simp only [zig, if_pos h2.1]; omega)
    simp only [vints, List.flatMap_cons, List.length_append, List.length_cons] at h1 ⊢
    omega
theorem vints_snoc (l : List Int) (n : Int) : vints (l ++ [n]) = vints l ++ vint (zig n) := by simp [vints]
theorem vints_snoc2 {l : List Int} {k : Nat} {x : Int} (h : l[k]? = some x) : vints (l.take (k + 1)) = vints (l.take k) ++ vint (zig x) := by rw [take_snoc h, vints_snoc]
theorem redoNums_small {r : Redo} (h : validIx r = none) : ∀ n ∈ redoNums r, 0 ≤ n ∧ n < 4611686018427387904 := by
  have := validIx_none h
  intro n hn
  simp only [redoNums, List.mem_cons, List.not_mem_nil, or_false] at hn
  rcases hn with rfl | rfl | rfl | rfl | rfl | rfl | rfl | rfl <;> first | omega | (split <;> omega)

theorem xs_short {xs zs k : List UInt8} (h : xs = zs ++ vint (zig k.length) ++ k) (h1 : zs.length ≤ 72) (h2 : k.length ≤ 32) : xs.length ≤ 1000000 := by
  have h3 := vint_len 9 (zig k.length) (by decide) (by simp only [zig]; split <;> omega)
  rw [h]
  simp only [List.length_append]
  omega
/-- A row of five numbers laid just now. -/
theorem Sl.ints5 (w : World) (a0 a1 a2 a3 a4 : Int) (t : TypeId) : Sl kInt All (w.alloc (.cells #[.int .i64 a0, .int .i64 a1, .int .i64 a2, .int .i64 a3, .int .i64 a4] t)) (.slice (some ⟨w.heap.size, 0, none⟩) 5 5) [a0, a1, a2, a3, a4] := by
  refine ⟨_, 5, rfl, Nat.le_refl _, by decide, fun _ => ⟨w.heap.size, 0, rfl, trivial, fun i x hi => ⟨[.int .i64 x], rfl, fun j u hu => ?_⟩⟩⟩
  cases j with
  | succ j => simp at hu
  | zero =>
    obtain rfl : Value.int .i64 x = u := by simpa using hu
    have h1 := World.news_of_block (cs := #[.int .i64 a0, .int .i64 a1, .int .i64 a2, .int .i64 a3, .int .i64 a4]) (t := t) (fr := (0, 0)) (heap_alloc_new w _) i (.int .i64 x)
      (by
        have : ([a0, a1, a2, a3, a4].map (Value.int .i64))[i]? = some (.int .i64 x) := by
          rw [List.getElem?_map, hi]
          rfl
        simpa using this)
    rw [addr_lit] at h1
    rw [show kInt.sz = 1 from rfl, Nat.mul_one, Nat.add_zero]
    exact h1
/-- A row of numbers laid just now. -/
theorem Sl.ints8 (w : World) (a0 a1 a2 a3 a4 a5 a6 a7 : Int) (t : TypeId) : Sl kInt All (w.alloc (.cells #[.int .i64 a0, .int .i64 a1, .int .i64 a2, .int .i64 a3, .int .i64 a4, .int .i64 a5, .int .i64 a6, .int .i64 a7] t)) (.slice (some ⟨w.heap.size, 0, none⟩) 8 8) [a0, a1, a2, a3, a4, a5, a6, a7] := by
  refine ⟨_, 8, rfl, Nat.le_refl _, by decide, fun _ => ⟨w.heap.size, 0, rfl, trivial, fun i x hi => ⟨[.int .i64 x], rfl, fun j u hu => ?_⟩⟩⟩
  cases j with
  | succ j => simp at hu
  | zero =>
    obtain rfl : Value.int .i64 x = u := by simpa using hu
    have h1 := World.news_of_block (cs := #[.int .i64 a0, .int .i64 a1, .int .i64 a2, .int .i64 a3, .int .i64 a4, .int .i64 a5, .int .i64 a6, .int .i64 a7]) (t := t) (fr := (0, 0)) (heap_alloc_new w _) i (.int .i64 x)
      (by
        have : ([a0, a1, a2, a3, a4, a5, a6, a7].map (Value.int .i64))[i]? = some (.int .i64 x) := by
          rw [List.getElem?_map, hi]
          rfl
        simpa using this)
    rw [addr_lit] at h1
    rw [show kInt.sz = 1 from rfl, Nat.mul_one, Nat.add_zero]
    exact h1

end Go.Proofs.YtoaamcpiljoojaaDoor
