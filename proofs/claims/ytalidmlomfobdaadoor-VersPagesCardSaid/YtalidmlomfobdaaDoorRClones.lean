/- redo.Clones, redo.Sort (at most twenty records). -/
import Derived.Test.YtalidmlomfobdaaDoorRClone
import Derived.Test.YtalidmlomfobdaaDoorSRise
import Derived.Deep.DeepFit
import Derived.Deep.LoopGhost
namespace Go.Proofs.YtalidmlomfobdaaDoor
open Go.RowKit

theorem info_redo : (Tryd.prog.info? 34).map (fun i => (i.zero, i.size, i.bytes)) = some (some (.agg #[.int .i64 0, .int .i64 0, .int .i64 0, .int .i64 0, .int .i64 0, .int .i64 0, .int .i64 0, .slice none 0 0, .slice none 0 0, .bool false]), kRedo.sz, 112) := by kernel_rfl

/-- Records' bytes are short. -/
def RedosOk (l : List Redo) : Prop := l.length ≤ 1000000 ∧ ∀ r ∈ l, r.key.length ≤ 1000000 ∧ r.val.length ≤ 1000000

set_option maxRecDepth 100000 in
set_option maxHeartbeats 2000000 in
theorem redo_clones {l : List Redo} {v : Value} {S : Nat → Prop} {w : World} (h : Sl kRedo S w v l) (ok : RedosOk l) :
    Calls Tryd.prog 79 #[v] w fun e w' => ∃ A' c', e = .returned (.slice A' l.length c') ∧ Own kRedo 34 w.heap.size (From w.heap.size) w' (.slice A' l.length c') l ∧ Fr All w w' := by
  obtain ⟨A, n, c, rfl, en, hnc, hcm⟩ := h.open_
  have hn : n ≤ 1000000 := by have := ok.1; omega
  have En := Lib.hid en
  have Ok := Lib.hid ok.2
  clear en ok
  go_enter Tryd.func79, Tryd.ntmps79
  go_wp2_with fail
  go_loopw [3, 8] (fun b i wr => ∃ k : Nat, k ≤ n ∧ i = .int .i64 k ∧ Own kRedo 34 w.heap.size (From w.heap.size) wr b (l.take k) ∧ Fr All w wr) (fun _ i _ => n - (intOf i).toNat)
  case atStart => exact ⟨0, Nat.zero_le _, rfl, Own.nil_ _ _ _ _ _, Fr.refl _ _⟩
  case round =>
    obtain ⟨k, hk, rfl, HO, HF⟩ := hrel
    obtain ⟨A', c', rfl⟩ := HO.length
    by_cases hlt : k < n
    · obtain ⟨x, hx, hmem⟩ := get_of (l := l) (k := k) (by rw [En.out]; exact hlt)
      obtain ⟨b, o, A0, n0, c0, A1, n1, c1, rfl, g0, g1, g2, g3, g4, g5, g6, g7, g8, g9, t0, t1⟩ := redo_at (h.all HF) hx
      have Hx := Lib.hid hx
      have hx0 := (Ok.out x hmem).1
      have hx1 := (Ok.out x hmem).2
      have b0 : (0 : Int) ≤ (k : Int) := by omega
      have b1 : (k : Int) < (n : Int) := by omega
      have hlk : (l.take k).length = k := by rw [List.length_take, En.out]; omega
      rw [hlk] at HO ⊢
      have F1 := (Fr.refl All wr).alloc (.cells #[.int .i64 x.lsn, .int .i64 x.back, .int .i64 x.epoch, .int .i64 x.group, .int .i64 x.page, .int .i64 x.kind, .int .i64 x.slot, .slice A0 n0 c0, .slice A1 n1 c1, .bool x.last] 34)
      clear hx hmem h hlk
      go_wp2_with fail
      refine (redo_clone (t0.all F1) (t1.all F1) hx0 hx1).mono ?_
      rintro e w2 ⟨A2, k2, c2, A3, k3, c3, rfl, o2, o3, f2⟩
      have F2 := F1.trans f2
      have hsz := F2.size
      have hsz1 : (wr.alloc (.cells #[.int .i64 x.lsn, .int .i64 x.back, .int .i64 x.epoch, .int .i64 x.group, .int .i64 x.page, .int .i64 x.kind, .int .i64 x.slot, .slice A0 n0 c0, .slice A1 n1 c1, .bool x.last] 34)).heap.size = wr.heap.size + 1 := World.size_alloc _ _
      rw [hsz1] at o2 o3
      have hwr := HF.size
      have hU : ∀ b, wr.heap.size + 1 + 2 ≤ b → From w.heap.size b ∧ some b ≠ (Value.slice A' k c').ownBlock := fun b hb => ⟨by unfold From; omega, fun e => by have := own_lt HO b e.symm; omega⟩
      have s2 : Sl kByte (fun b => From w.heap.size b ∧ some b ≠ (Value.slice A' k c').ownBlock) w2 (.slice A2 k2 c2) x.key := o2.plain_in (fun b hb _ => hU b hb)
      have s3 : Sl kByte (fun b => From w.heap.size b ∧ some b ≠ (Value.slice A' k c').ownBlock) w2 (.slice A3 k3 c3) x.val := o3.plain_in (fun b hb _ => hU b hb)
      have HO2 := HO.all (F2.alloc (.cells #[.int .i64 x.lsn, .int .i64 x.back, .int .i64 x.epoch, .int .i64 x.group, .int .i64 x.page, .int .i64 x.kind, .int .i64 x.slot, .slice A2 k2 c2, .slice A3 k3 c3, .bool x.last] 34))
      have HY := Src.box (kRedo_mk s2 s3) 34 1
      have FF := HF.trans (F2.alloc (.cells #[.int .i64 x.lsn, .int .i64 x.back, .int .i64 x.epoch, .int .i64 x.group, .int .i64 x.page, .int .i64 x.kind, .int .i64 x.slot, .slice A2 k2 c2, .slice A3 k3 c3, .bool x.last] 34))
      have hb1 : w.heap.size ≤ (w2.alloc (.cells #[.int .i64 x.lsn, .int .i64 x.back, .int .i64 x.epoch, .int .i64 x.group, .int .i64 x.page, .int .i64 x.kind, .int .i64 x.slot, .slice A2 k2 c2, .slice A3 k3 c3, .bool x.last] 34)).heap.size := FF.size
      have hln : ((l.take k).length + [x].length) * 112 ≤ 140737488355328 := by simp only [List.length_take, List.length_cons, List.length_nil]; omega
      clear g0 g1 g2 g3 g4 g5 g6 g7 g8 g9 o2 o3 f2 F2 F1 s2 s3
      go_wp2_with (at_builtin; refine wpList_app rfl rfl Tryd.underlying25 info_redo rfl (by decide) HO2 HY rfl rfl (fun b hb _ => hb) hln hb1 ?_; intro v' w' h3 h4 h5)
      rw [← take_snoc Hx.out] at h3
      have F3 : Fr All w w' := FF.row h4.grown fun m hm => by have := own_lt HO m hm; omega
      go_roundw
      case rel => exact ⟨k + 1, by omega, by go_num, h3, F3⟩
      case measure => simp [intOf]; omega
    · obtain rfl : k = n := by omega
      rw [List.take_of_length_le (by rw [En.out]; exact Nat.le_refl _)] at HO ⊢
      rw [En.out] at HO ⊢
      go_wp2_with fail
      go_ret
      have e := En.out
      exact ⟨A', c', by rw [e]; rfl, by rw [e]; exact HO, HF⟩

/-- redo.Sort of at most twenty records, or of records that rise. -/
theorem redo_sort {l : List Redo} {v : Value} {S : Nat → Prop} {w : World} (h : Sl kRedo S w v l) (hn : Sorts l) (ok : RedosOk l) :
    Calls Tryd.prog 84 #[v] w fun e w' => ∃ A' n c' l', e = .returned (.slice A' n c') ∧ PermR l' l ∧ Sl kRedo (From w.heap.size) w' (.slice A' n c') l' ∧ Fr All w w' := by
  obtain ⟨A, n, c, rfl, en, _⟩ := h.open_
  subst en
  go_enter Tryd.func84, Tryd.ntmps84
  go_wp2_with fail
  refine (redo_clones h ok).mono ?_
  rintro e w1 ⟨A1, c1, rfl, o1, f1⟩
  go_wp2_with fail
  refine (sort_any o1 hn).mono ?_
  rintro e w2 ⟨rfl, l2, p2, o2, f2⟩
  go_wp2_with fail
  go_ret
  refine ⟨A1, l.length, c1, l2, rfl, p2, o2.sl_in (fun b hb _ => hb) (fun b hb _ => hb), ?_⟩
  exact ⟨f2.os.trans f1.os, f2.tape.trans f1.tape, f2.output.trans f1.output, Nat.le_trans f1.size f2.size, fun b hb _ => (f2.block b (Nat.lt_of_lt_of_le hb f1.size) (fun e => by have := own_lt o1 b e.symm; omega)).trans (f1.block b hb trivial)⟩
end Go.Proofs.YtalidmlomfobdaaDoor
