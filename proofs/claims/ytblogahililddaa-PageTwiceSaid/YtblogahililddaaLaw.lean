/- The chapter's helpers: New, Number, rows, first. -/
import Derived.Test.YtblogahililddaaApply2
import Derived.IntWalk
namespace Go.Proofs.Ytblogahililddaa
open Go.RowKit

/-- What a call answers that gives a page of its own. -/
theorem page_new (id : Int) (w : World) : Calls Try.prog 11 #[.int .i64 id] w (Applied w ⟨id, 0, 0, -1, []⟩) := by
  go_enter Try.func11, Try.ntmps11
  go_wp2_with fail
  refine bodyPost_ret (v := .agg #[.int .i64 id, .int .i64 0, .int .i64 0, .int .i64 (-1), .slice none 0 0]) ?_ rfl ⟨none, 0, rfl, Own.nil_ _ _ _ _ _, ?_⟩
  · simp [results, Try.results11, go_sem]
  · exact (Fr.refl All w).alloc _

theorem number {n k : Int} (w : World) (hk : 0 < k) (hk2 : k ≤ 1000000) : Calls Try.prog 12 #[.int .i64 n, .int .i64 k] w fun e w' => ∃ r : Nat, (r : Int) < k ∧ e = .returned (.int .i64 r) ∧ w' = w := by
  have h0 : k ≠ 0 := by omega
  have h1 : (k == 0) = false := by rw [beq_eq_false_iff_ne]; exact h0
  have h2 : (k == -1) = false := by rw [beq_eq_false_iff_ne]; omega
  obtain ⟨m, hm⟩ : ∃ m, n.tmod k = m := ⟨_, rfl⟩
  have hm1 : -k < m ∧ m < k := by
    rw [← hm]
    have a1 := Int.natAbs_tmod n k
    have a2 : n.natAbs % k.natAbs < k.natAbs := Nat.mod_lt _ (by omega)
    omega
  have hw1 : IntKind.i64.wrap m = m := IntWalk.i64_in _ (by omega)
  have hw2 : IntKind.i64.wrap (m + k) = m + k := IntWalk.i64_in _ (by omega)
  by_cases hn : m < 0
  · have hd : decide (m < 0) = true := by rw [decide_eq_true_eq]; exact hn
    go_enter Try.func12, Try.ntmps12
    go_wp2_with fail
    go_ret
    exact ⟨(m + k).toNat, by omega, by rw [show ((m + k).toNat : Int) = m + k by omega]; rfl, rfl⟩
  · have hd : decide (m < 0) = false := by rw [decide_eq_false_iff_not]; exact hn
    go_enter Try.func12, Try.ntmps12
    go_wp2_with fail
    go_ret
    exact ⟨m.toNat, by omega, by rw [show (m.toNat : Int) = m by omega]; rfl, rfl⟩

/-- A byte in a box of its own. -/
theorem Sl.byte (w : World) (S : Nat → Prop) (x : UInt8) (t : TypeId) (hS : S w.heap.size) : Sl kByte S (w.alloc (.cells #[.int .u8 (x.toNat : Int)] t)) (.slice (some ⟨w.heap.size, 0, none⟩) 1 1) [x] := by
  refine ⟨_, 1, rfl, Nat.le_refl _, by decide, fun _ => ⟨w.heap.size, 0, rfl, hS, fun i y hi => ?_⟩⟩
  cases i with
  | succ i => simp at hi
  | zero =>
    obtain rfl : x = y := by simpa using hi
    refine ⟨_, rfl, fun j u hu => ?_⟩
    have h1 := World.news_of_block (cs := #[Value.int .u8 (x.toNat : Int)]) (t := t) (fr := (0, 0)) (heap_alloc_new w _) j u (by simpa using hu)
    simpa [addr_lit] using h1

/-- The entries that rows lays. -/
def rowEnts (n : Nat) : List Ent := (List.range n).map fun i => ⟨[UInt8.ofNat (2 * i)], [UInt8.ofNat i]⟩
theorem rowEnts_len (n : Nat) : (rowEnts n).length = n := by simp [rowEnts]
theorem rowEnts_succ (n : Nat) : rowEnts (n + 1) = rowEnts n ++ [⟨[UInt8.ofNat (2 * n)], [UInt8.ofNat n]⟩] := by simp [rowEnts, List.range_succ]
theorem rowEnts_ok {n : Nat} (hn : n ≤ 8) : EntsOk (rowEnts n) := by
  refine ⟨by rw [rowEnts_len]; omega, fun e he => ?_⟩
  simp only [rowEnts, List.mem_map] at he
  obtain ⟨i, _, rfl⟩ := he
  exact ⟨by simp, by simp⟩
def rowPage (n : Nat) : Page := ⟨5, n, 0, -1, rowEnts n⟩

/-- What a call answers that gives a page that reads as q. -/
def Reads (w : World) (q : Page) (e : Ending) (w' : World) : Prop :=
  ∃ A c, e = .returned (.agg #[.int .i64 q.id, .int .i64 q.lsn, .int .i64 q.level, .int .i64 q.next, .slice A q.ents.length c]) ∧ Sl kEnt (From w.heap.size) w' (.slice A q.ents.length c) q.ents ∧ Fr All w w'
theorem Applied.sl {B : Nat} {w' : World} {v : Value} {xs : List Ent} {t : TypeId} (h : Own kEnt t B (From B) w' v xs) : Sl kEnt (From B) w' v xs :=
  h.sl.mono fun b hb _ => hb.elim id fun hh => (own_lt h b hh.symm).1
theorem Applied.reads {w : World} {q : Page} {e : Ending} {w' : World} (h : Applied w q e w') : Reads w q e w' := by
  obtain ⟨A, c, he, ho, hf⟩ := h
  exact ⟨A, c, he, Applied.sl ho, hf⟩

set_option maxHeartbeats 1000000 in
theorem rows_call {n : Nat} (w : World) (hn : n ≤ 8) : Calls Try.prog 14 #[.int .i64 n] w (Reads w (rowPage n)) := by
  go_enter Try.func14, Try.ntmps14
  go_wp2_with fail
  obtain ⟨w0, hw0⟩ : ∃ w0, w.alloc (.cells #[.int .i64 0, .int .i64 0, .int .i64 0, .int .i64 0, .slice none 0 0] 26) = w0 := ⟨_, rfl⟩
  have B0 := heap_alloc_new w (.cells #[.int .i64 0, .int .i64 0, .int .i64 0, .int .i64 0, .slice none 0 0] 26)
  have F0 := (Fr.refl All w).alloc (.cells #[.int .i64 0, .int .i64 0, .int .i64 0, .int .i64 0, .slice none 0 0] 26)
  have hz0 : w0.heap.size = w.heap.size + 1 := by rw [← hw0, World.size_alloc]
  rw [hw0] at B0 F0 ⊢
  refine (page_new 5 _).mono ?_
  rintro e w1 ⟨A1, c1, rfl, o1, f1⟩
  dsimp only at o1 ⊢
  have hz1 : w0.heap.size ≤ w1.heap.size := f1.size
  go_wp2_with fail
  go_loopw [4] (fun i wr => ∃ (k : Nat) (A : Option Addr) (c : Nat), k ≤ n ∧ i = .int .i64 k ∧ Sl kEnt (fun b => From w0.heap.size b ∧ b ≠ w1.heap.size) wr (.slice A k c) (rowEnts k) ∧ Fr All w0 wr ∧
      wr.cell? ⟨w1.heap.size, 0, none⟩ = some (.int .i64 5) ∧ wr.cell? ⟨w1.heap.size, 1, none⟩ = some (.int .i64 k) ∧ wr.cell? ⟨w1.heap.size, 2, none⟩ = some (.int .i64 0) ∧ wr.cell? ⟨w1.heap.size, 3, none⟩ = some (.int .i64 (-1)) ∧ wr.cell? ⟨w1.heap.size, 4, none⟩ = some (.slice A k c) ∧ ∀ j, wr.frozen? ⟨w1.heap.size, j, none⟩ = false)
    (fun i _ => n - (intOf i).toNat)
  case atStart =>
    have h1 := Applied.sl o1
    refine ⟨0, A1, c1, Nat.zero_le _, rfl, ?_, f1.alloc _, ?_⟩
    · exact (h1.mono fun b hb hl => ⟨hb, by omega⟩).all ((Fr.refl All w1).alloc _)
    · obtain ⟨a0, a1, a2, a3, a4, az⟩ := blk5 (heap_alloc_new w1 (.cells #[.int .i64 5, .int .i64 0, .int .i64 0, .int .i64 (-1), .slice A1 0 c1] 26))
      exact ⟨a0, a1, a2, a3, a4, az⟩
  case round =>
    obtain ⟨k, A, c, hk, rfl, HS, HF, a0, a1, a2, a3, a4, az⟩ := hrel
    have hz2 : w0.heap.size ≤ wr.heap.size := HF.size
    by_cases hlt : k < n
    · have hw1 : IntKind.i64.wrap ((k : Int) + 1) = (k : Int) + 1 := IntWalk.i64_in _ (by omega)
      have hw2 : IntKind.i64.wrap (2 * (k : Int)) = 2 * (k : Int) := IntWalk.i64_in _ (by omega)
      have hl1 := World.block_lt_of_cell? _ _ a0
      dsimp only at hl1
      go_wp2_with fail
      have hw3 : ((UInt8.ofNat (2 * k)).toNat : Int) = 2 * (k : Int) := by rw [UInt8.toNat_ofNat_of_lt' (by simp only [UInt8.size]; omega)]; omega
      have hw4 : ((UInt8.ofNat k).toNat : Int) = (k : Int) := by rw [UInt8.toNat_ofNat_of_lt' (by simp only [UInt8.size]; omega)]
      obtain ⟨W2, hW2⟩ : ∃ W2, (wr.alloc (.cells #[.int .u8 (2 * (k : Int))] 5)).alloc (.cells #[.int .u8 (k : Int)] 5) = W2 := ⟨_, rfl⟩
      have G2 : Fr All wr W2 := by rw [← hW2]; exact ((Fr.refl All wr).alloc _).alloc _
      have K1 : Sl kByte All W2 (.slice (some ⟨wr.heap.size, 0, none⟩) 1 1) [UInt8.ofNat (2 * k)] := by
        have := Sl.byte wr All (UInt8.ofNat (2 * k)) 5 trivial
        rw [hw3] at this
        rw [← hW2]
        exact this.all ((Fr.refl All _).alloc _)
      have K2 : Sl kByte All W2 (.slice (some ⟨wr.heap.size + 1, 0, none⟩) 1 1) [UInt8.ofNat k] := by
        have := Sl.byte (wr.alloc (.cells #[.int .u8 (2 * (k : Int))] 5)) All (UInt8.ofNat k) 5 trivial
        rw [World.size_alloc, hw4] at this
        rw [← hW2]
        exact this
      rw [hW2]
      refine (apply_insert (p := rowPage k) (HS.all G2) (rowEnts_ok (by omega)) ⟨_, _, _, rfl⟩ ⟨_, _, _, rfl⟩ K1 K2 (by simp) (by simp) rfl (by show (k : Int) < k + 1; omega) (by omega) (by show (rowEnts k).length < 8; rw [rowEnts_len]; omega)).mono ?_
      rintro e w3 ⟨A3, c3, rfl, o3, f3⟩
      have hq : (rowPage k).ents.take (min (k : Int).toNat (rowPage k).ents.length) ++ (⟨[UInt8.ofNat (2 * k)], [UInt8.ofNat k]⟩ :: (rowPage k).ents.drop (min (k : Int).toNat (rowPage k).ents.length)) = rowEnts (k + 1) := by
        have hl : (rowPage k).ents.length = k := rowEnts_len k
        rw [hl, Int.toNat_natCast, Nat.min_self, List.take_of_length_le (by omega), List.drop_of_length_le (by omega), rowEnts_succ]
        rfl
      dsimp only at o3 ⊢
      rw [hq, rowEnts_len] at o3
      rw [hq, rowEnts_len]
      have G3 := G2.then_all f3
      have b0 := G3.cell trivial a0
      have b1 := G3.cell trivial a1
      have b2 := G3.cell trivial a2
      have b3 := G3.cell trivial a3
      have b4 := G3.cell trivial a4
      have bz : ∀ j, w3.frozen? ⟨w1.heap.size, j, none⟩ = false := fun j => (World.frozen?_of_block (a := ⟨w1.heap.size, j, none⟩) (G3.block _ hl1 trivial)).trans (az j)
      have hzz : wr.heap.size ≤ W2.heap.size := G2.size
      have h3 : Sl kEnt (fun b => From w0.heap.size b ∧ b ≠ w1.heap.size) w3 (.slice A3 (k + 1) c3) (rowEnts (k + 1)) := (Applied.sl o3).mono fun b hb hl => by unfold From at hb ⊢; omega
      have F3 : Fr All w0 w3 := HF.then_all G3
      clear a0 a1 a2 a3 a4 az hW2 K1 K2 hq hw2 hw3 hw4 HS HF o3 f3 G2 G3
      dsimp only [rowPage] at b0 ⊢
      go_wp2_with fail
      go_roundw
      case rel => 
        refine ⟨k + 1, A3, c3, by omega, by go_num, ?_, ?_, ?_, ?_, ?_, ?_, ?_, ?_⟩
        · refine h3.move ?_
          repeat (first | (with_reducible exact Fr.refl _ _) | with_reducible refine Fr.setCell ?_ (fun m hm => hm.2) _)
        · repeat (first | (with_reducible exact F3) | with_reducible refine Fr.setNew ?_ (by dsimp only; omega) _)
        · go_simp
        · go_simp
        · go_simp
        · go_simp
        · go_simp
        · intro j
          go_simp
      case measure => simp [intOf]; omega
    · obtain rfl : k = n := by omega
      obtain ⟨d0, d1, d2, d3, d4, dz⟩ := blk5 ((HF.block w.heap.size (by omega) trivial).trans B0)
      go_wp2_with fail
      refine bodyPost_ret (v := .agg #[.int .i64 5, .int .i64 k, .int .i64 0, .int .i64 (-1), .slice A k c]) ?_ rfl ⟨A, c, by rw [show (rowPage k).ents.length = k from rowEnts_len k]; rfl, ?_, ?_⟩
      · simp [results, Try.results14, go_sem, d0, d1, d2, d3, d4]
      · rw [show (rowPage k).ents.length = k from rowEnts_len k]
        refine (HS.move ?_).mono fun b hb _ => by have := hb.1; unfold From at this ⊢; omega
        repeat (first | (with_reducible exact Fr.refl _ _) | with_reducible refine Fr.setCell ?_ (fun m hm => by have := hm.1; unfold From at this; dsimp only; omega) _)
      · have F9 := F0.then_all HF
        repeat (first | (with_reducible exact F9) | with_reducible refine Fr.setNew ?_ (by dsimp only; omega) _)

/-- The chapter's example. -/
theorem first_call (w : World) : Calls Try.prog 10 #[] w fun e w' => e = .returned (.bool true) ∧ Fr All w w' := by
  go_enter Try.func10, Try.ntmps10
  go_wp2_with fail
  refine (page_new 3 _).mono ?_
  rintro e w1 ⟨A1, c1, rfl, o1, f1⟩
  dsimp only at o1 ⊢
  go_wp2_with fail
  refine (apply_insert (p := ⟨3, 0, 0, -1, []⟩) (key := [7]) (val := []) (Applied.sl (o1.all ((Fr.refl All w1).alloc _))) ⟨by simp, by simp⟩ ⟨_, _, _, rfl⟩ ⟨_, _, _, rfl⟩ (Sl.byte w1 All 7 5 trivial) (Sl.nil_ _ All _) (by simp) (by simp) rfl (by show (0 : Int) < 1; omega) (by omega) (by show 0 < 8; omega)).mono ?_
  rintro e w2 ⟨A2, c2, rfl, o2, f2⟩
  have FF := (f1.alloc (.cells #[.int .u8 7] 5)).then_all f2
  dsimp only at o2 ⊢
  go_wp2_with fail
  go_ret
  exact ⟨rfl, FF.alloc _⟩
end Go.Proofs.Ytblogahililddaa
