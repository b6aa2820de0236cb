/- redo.Clone: a record of its own. redo.Clones, redo.Sort (at most twenty records). -/
import Derived.Test.YtoaamcpiljoojaaGreatDoorClone
import Derived.Test.YtoaamcpiljoojaaGreatDoorVIx
import Derived.Test.YtoaamcpiljoojaaGreatDoorLast3
import Derived.Deep.RegionHeld3
import Derived.Deep.Cut
import Derived.Test.YtoaamcpiljoojaaGreatDoorSRise
import Derived.Deep.DeepFit
import Derived.Deep.LoopGhost
namespace Go.Proofs.YtoaamcpiljoojaaGreatDoor
open Go.RowKit

set_option hygiene false in
set_option maxRecDepth 100000 in
set_option maxHeartbeats 2000000 in
theorem redo_clone {w : World} {r : Redo} {v0 v1 : Value} {S T : Nat → Prop} (s0 : Sl kByte S w v0 r.key) (s1 : Sl kByte T w v1 r.val) (hk : r.key.length ≤ 1000000) (hv : r.val.length ≤ 1000000) :
    Calls Tryz.prog 44 #[.agg #[.int .i64 r.lsn, .int .i64 r.back, .int .i64 r.epoch, .int .i64 r.group, .int .i64 r.page, .int .i64 r.kind, .int .i64 r.slot, v0, v1, .bool r.last]] w
      fun e w' => ∃ A0 k0 c0 A1 k1 c1, e = .returned (.agg #[.int .i64 r.lsn, .int .i64 r.back, .int .i64 r.epoch, .int .i64 r.group, .int .i64 r.page, .int .i64 r.kind, .int .i64 r.slot, .slice A0 k0 c0, .slice A1 k1 c1, .bool r.last]) ∧
        Own kByte 5 (w.heap.size + 2) All w' (.slice A0 k0 c0) r.key ∧ Own kByte 5 (w.heap.size + 2) All w' (.slice A1 k1 c1) r.val ∧ Fr All w w' := by
  obtain ⟨A0, n0, c0, rfl, e0, _⟩ := s0.open_
  obtain ⟨A1, n1, c1, rfl, e1, _⟩ := s1.open_
  have P := heap_alloc2_old w (.cells #[.int .i64 r.lsn, .int .i64 r.back, .int .i64 r.epoch, .int .i64 r.group, .int .i64 r.page, .int .i64 r.kind, .int .i64 r.slot, .slice A0 n0 c0, .slice A1 n1 c1, .bool r.last] 33) (.cells #[.int .i64 0, .int .i64 0, .int .i64 0, .int .i64 0, .int .i64 0, .int .i64 0, .int .i64 0, .slice none 0 0, .slice none 0 0, .bool false] 33)
  have Q := heap_alloc2_new w (.cells #[.int .i64 r.lsn, .int .i64 r.back, .int .i64 r.epoch, .int .i64 r.group, .int .i64 r.page, .int .i64 r.kind, .int .i64 r.slot, .slice A0 n0 c0, .slice A1 n1 c1, .bool r.last] 33) (.cells #[.int .i64 0, .int .i64 0, .int .i64 0, .int .i64 0, .int .i64 0, .int .i64 0, .int .i64 0, .slice none 0 0, .slice none 0 0, .bool false] 33)
  have F0 := ((Fr.refl All w).alloc (.cells #[.int .i64 r.lsn, .int .i64 r.back, .int .i64 r.epoch, .int .i64 r.group, .int .i64 r.page, .int .i64 r.kind, .int .i64 r.slot, .slice A0 n0 c0, .slice A1 n1 c1, .bool r.last] 33)).alloc (.cells #[.int .i64 0, .int .i64 0, .int .i64 0, .int .i64 0, .int .i64 0, .int .i64 0, .int .i64 0, .slice none 0 0, .slice none 0 0, .bool false] 33)
  have hsz : ((w.alloc (.cells #[.int .i64 r.lsn, .int .i64 r.back, .int .i64 r.epoch, .int .i64 r.group, .int .i64 r.page, .int .i64 r.kind, .int .i64 r.slot, .slice A0 n0 c0, .slice A1 n1 c1, .bool r.last] 33)).alloc (.cells #[.int .i64 0, .int .i64 0, .int .i64 0, .int .i64 0, .int .i64 0, .int .i64 0, .int .i64 0, .slice none 0 0, .slice none 0 0, .bool false] 33)).heap.size = w.heap.size + 2 := by simp
  go_enter Tryz.func44, Tryz.ntmps44
  go_upto_region 1 with (fail)
  refine wp_name ?_
  intro W hW
  rw [← hW] at P Q F0 hsz
  clear hW
  obtain ⟨p0, p1, p2, p3, p4, p5, p6, p7, p8, p9, pz⟩ := blk10 P
  have hlP := blk_lt P
  have hlQ := blk_lt Q
  refine wp_region_last3 (S := fun w' => w'.cell? ⟨w.heap.size, 7, none⟩ = some (.slice A0 n0 c0) ∧ w'.cell? ⟨w.heap.size, 8, none⟩ = some (.slice A1 n1 c1)) 7 (by kernel_rfl) rfl (by kernel_rfl) (by kernel_rfl) (by kernel_rfl) ⟨p7, p8⟩ (fun hHeld => ?_)
  simp only [List.take_succ_cons, List.take_zero]
  refine wpAnyH_take (i := 0) (v := ?_) rfl (by kernel_rfl) (by kernel_rfl) (by kernel_rfl) (fun _ _ _ h => h) (Or.inl ⟨by rfl, ?_⟩) (by assumption) ?_
  rotate_left
  · (intro w hSw; (try dsimp only at hSw); go_simp; try with_reducible rfl)
  try simp only [Act.put]
  try simp only [List.setIfInBounds_toArray]
  try simp only [List.set_cons_succ]
  try simp only [List.set_cons_zero]
  refine wpAnyH_take (i := 1) (v := ?_) rfl (by kernel_rfl) (by kernel_rfl) (by kernel_rfl) (fun _ _ _ h => h) (Or.inl ⟨by rfl, ?_⟩) (by assumption) ?_
  rotate_left
  · (intro w hSw; (try dsimp only at hSw); go_simp; try with_reducible rfl)
  try simp only [Act.put]
  try simp only [List.setIfInBounds_toArray]
  try simp only [List.set_cons_succ]
  try simp only [List.set_cons_zero]
  refine wpAnyH_take (i := 3) (v := ?_) rfl (by kernel_rfl) (by kernel_rfl) (by kernel_rfl) (fun _ _ _ h => h) (Or.inl ⟨by rfl, ?_⟩) (by assumption) ?_
  rotate_left
  · (intro w hSw; (try dsimp only at hSw); go_simp; try with_reducible rfl)
  try simp only [Act.put]
  try simp only [List.setIfInBounds_toArray]
  try simp only [List.set_cons_succ]
  try simp only [List.set_cons_zero]
  refine wpAnyH_take (i := 4) (v := ?_) rfl (by kernel_rfl) (by kernel_rfl) (by kernel_rfl) (fun _ _ _ h => h) (Or.inl ⟨by rfl, ?_⟩) (by assumption) ?_
  rotate_left
  · (intro w hSw; (try dsimp only at hSw); go_simp; try with_reducible rfl)
  try simp only [Act.put]
  try simp only [List.setIfInBounds_toArray]
  try simp only [List.set_cons_succ]
  try simp only [List.set_cons_zero]
  refine wpAnyH_ready (rs := [2]) (by kernel_rfl) (by simp) (AllReadyH.cons rfl (fun K hK => ?_) AllReadyH.nil)
  go_simp
  refine (clone_bytes ((s0.all F0).all (Fr.refl All W).drew) (by omega)).mono ?_
  rintro e w3 ⟨A3, c3, rfl, o3, f3⟩
  go_simp
  have F3 : Fr All W w3 := (Fr.refl All W).drew.then_all f3
  refine hK.out _ _ ⟨F3.cell trivial p7, F3.cell trivial p8⟩ (fun hHeld => ?_)
  clear hK K
  try simp only [Act.put]
  try simp only [List.setIfInBounds_toArray]
  try simp only [List.set_cons_succ]
  try simp only [List.set_cons_zero]
  refine wpAnyH_take (i := 6) (v := ?_) rfl (by kernel_rfl) (by kernel_rfl) (by kernel_rfl) (fun _ _ _ h => h) (Or.inl ⟨by rfl, ?_⟩) (by assumption) ?_
  rotate_left
  · (intro w hSw; (try dsimp only at hSw); go_simp; try with_reducible rfl)
  try simp only [Act.put]
  try simp only [List.setIfInBounds_toArray]
  try simp only [List.set_cons_succ]
  try simp only [List.set_cons_zero]
  refine wpAnyH_ready (rs := [5]) (by kernel_rfl) (by simp) (AllReadyH.cons rfl (fun K hK => ?_) AllReadyH.nil)
  go_simp
  refine (clone_bytes ((s1.all F0).all F3) (by omega)).mono ?_
  rintro e w4 ⟨A4, c4, rfl, o4, f4⟩
  go_simp
  have F4 : Fr All W w4 := F3.then_all f4
  refine hK.out _ _ ⟨F4.cell trivial p7, F4.cell trivial p8⟩ (fun hHeld => ?_)
  clear hK K
  try simp only [Act.put]
  try simp only [List.setIfInBounds_toArray]
  try simp only [List.set_cons_succ]
  try simp only [List.set_cons_zero]
  have FW := F0.trans F4
  have B1 := (F4.block _ hlP trivial).trans P
  have B2 := (F4.block _ hlQ trivial).trans Q
  have O3 : Own kByte 5 (w.heap.size + 2) All w4 (.slice A3 r.key.length c3) r.key := (o3.all f4).lower (by have : W.drew.heap.size = W.heap.size := rfl; omega)
  have O4 : Own kByte 5 (w.heap.size + 2) All w4 (.slice A4 r.val.length c4) r.val := o4.lower (by have := F3.size; omega)
  clear hHeld p0 p1 p2 p3 p4 p5 p6 p7 p8 p9 pz P Q o3 o4 F3 f3 f4 F4
  rw [e0] at O3
  rw [e1] at O4
  obtain ⟨p0, p1, p2, p3, p4, p5, p6, p7, p8, p9, pz⟩ := blk10 B1
  obtain ⟨q0, q1, q2, q3, q4, q5, q6, q7, q8, q9, qz⟩ := blk10 B2
  refine wpAnyH_done (by kernel_rfl) ?_ _
  show wpList _ _ _ _ _ _
  go_wp2_with fail
  show wpList _ _ _ _ _ _
  go_wp2_with fail
  show wpList _ _ _ _ _ _
  go_wp2_with fail
  refine bodyPost_ret (v := .agg #[.int .i64 r.lsn, .int .i64 r.back, .int .i64 r.epoch, .int .i64 r.group, .int .i64 r.page, .int .i64 r.kind, .int .i64 r.slot, .slice A3 n0 c3, .slice A4 n1 c4, .bool r.last]) ?_ rfl ⟨A3, n0, c3, A4, n1, c4, rfl, ?_, ?_, ?_⟩
  · simp [results, Tryz.results44, go_sem, q0, q1, q2, q3, q4, q5, q6, q7, q8, q9]
  · refine ((O3.any (T := Nowhere)).move (T := fun b => w.heap.size + 2 ≤ b) ?_ (fun _ h _ => h.elim) (fun k hk => (own_lt O3 k hk).1)).any
    repeat (first | (with_reducible exact Fr.refl _ _) | with_reducible refine Fr.setCell ?_ (fun m hm => by dsimp only at hm ⊢; omega) _)
  · refine ((O4.any (T := Nowhere)).move (T := fun b => w.heap.size + 2 ≤ b) ?_ (fun _ h _ => h.elim) (fun k hk => (own_lt O4 k hk).1)).any
    repeat (first | (with_reducible exact Fr.refl _ _) | with_reducible refine Fr.setCell ?_ (fun m hm => by dsimp only at hm ⊢; omega) _)
  · repeat (first | (with_reducible exact FW) | with_reducible refine Fr.setNew ?_ (by dsimp only; omega) _)
end Go.Proofs.YtoaamcpiljoojaaGreatDoor
namespace Go.Proofs.YtoaamcpiljoojaaGreatDoor
open Go.RowKit

theorem info_redo : (Tryz.prog.info? 33).map (fun i => (i.zero, i.size, i.bytes)) = some (some (.agg #[.int .i64 0, .int .i64 0, .int .i64 0, .int .i64 0, .int .i64 0, .int .i64 0, .int .i64 0, .slice none 0 0, .slice none 0 0, .bool false]), kRedo.sz, 112) := by kernel_rfl

/-- Records' bytes are short. -/
def RedosOk (l : List Redo) : Prop := l.length ≤ 1000000 ∧ ∀ r ∈ l, r.key.length ≤ 1000000 ∧ r.val.length ≤ 1000000

set_option maxRecDepth 100000 in
set_option maxHeartbeats 2000000 in
theorem redo_clones {l : List Redo} {v : Value} {S : Nat → Prop} {w : World} (h : Sl kRedo S w v l) (ok : RedosOk l) :
    Calls Tryz.prog 125 #[v] w fun e w' => ∃ A' c', e = .returned (.slice A' l.length c') ∧ Own kRedo 33 w.heap.size (From w.heap.size) w' (.slice A' l.length c') l ∧ Fr All w w' := by
  obtain ⟨A, n, c, rfl, en, hnc, hcm⟩ := h.open_
  have hn : n ≤ 1000000 := by have := ok.1; omega
  have En := Lib.hid en
  have Ok := Lib.hid ok.2
  clear en ok
  go_enter Tryz.func125, Tryz.ntmps125
  go_wp2_with fail
  go_loopw [3, 8] (fun b i wr => ∃ k : Nat, k ≤ n ∧ i = .int .i64 k ∧ Own kRedo 33 w.heap.size (From w.heap.size) wr b (l.take k) ∧ Fr All w wr) (fun _ i _ => n - (intOf i).toNat)
  case atStart => exact ⟨0, Nat.zero_le _, rfl, Own.nil_ _ _ _ _ _, Fr.refl _ _⟩
  case round =>
    obtain ⟨k, hk, rfl, HO, HF⟩ := hrel
    obtain ⟨A', c', rfl⟩ := HO.length
    by_cases hlt : k < n
    · obtain ⟨x, hx, hmem⟩ := get_of (l := l) (k := k) (by rw [En.out]; exact hlt)
      obtain ⟨b, o, A0, n0, c0, A1, n1, c1, rfl, g0, g1, g2, g3, g4, g5, g6, g7, g8, g9, t0, t1⟩ := redo_at (h.all HF) hx
      have Hx := Lib.hid hx
      have hx0 := (Ok.out x hmem).1
      have hx1 := (Ok.out x hmem).2
      have b0 : (0 : Int) ≤ (k : Int) := by omega
      have b1 : (k : Int) < (n : Int) := by omega
      have hlk : (l.take k).length = k := by rw [List.length_take, En.out]; omega
      rw [hlk] at HO ⊢
      have F1 := (Fr.refl All wr).alloc (.cells #[.int .i64 x.lsn, .int .i64 x.back, .int .i64 x.epoch, .int .i64 x.group, .int .i64 x.page, .int .i64 x.kind, .int .i64 x.slot, .slice A0 n0 c0, .slice A1 n1 c1, .bool x.last] 33)
      clear hx hmem h hlk
      go_wp2_with fail
      refine (redo_clone (t0.all F1) (t1.all F1) hx0 hx1).mono ?_
      rintro e w2 ⟨A2, k2, c2, A3, k3, c3, rfl, o2, o3, f2⟩
      have F2 := F1.trans f2
      have hsz := F2.size
      have hsz1 : (wr.alloc (.cells #[.int .i64 x.lsn, .int .i64 x.back, .int .i64 x.epoch, .int .i64 x.group, .int .i64 x.page, .int .i64 x.kind, .int .i64 x.slot, .slice A0 n0 c0, .slice A1 n1 c1, .bool x.last] 33)).heap.size = wr.heap.size + 1 := World.size_alloc _ _
      rw [hsz1] at o2 o3
      have hwr := HF.size
      have hU : ∀ b, wr.heap.size + 1 + 2 ≤ b → From w.heap.size b ∧ some b ≠ (Value.slice A' k c').ownBlock := fun b hb => ⟨by unfold From; omega, fun e => by have := own_lt HO b e.symm; omega⟩
      have s2 : Sl kByte (fun b => From w.heap.size b ∧ some b ≠ (Value.slice A' k c').ownBlock) w2 (.slice A2 k2 c2) x.key := o2.plain_in (fun b hb _ => hU b hb)
      have s3 : Sl kByte (fun b => From w.heap.size b ∧ some b ≠ (Value.slice A' k c').ownBlock) w2 (.slice A3 k3 c3) x.val := o3.plain_in (fun b hb _ => hU b hb)
      have HO2 := HO.all (F2.alloc (.cells #[.int .i64 x.lsn, .int .i64 x.back, .int .i64 x.epoch, .int .i64 x.group, .int .i64 x.page, .int .i64 x.kind, .int .i64 x.slot, .slice A2 k2 c2, .slice A3 k3 c3, .bool x.last] 33))
      have HY := Src.box (kRedo_mk s2 s3) 33 1
      have FF := HF.trans (F2.alloc (.cells #[.int .i64 x.lsn, .int .i64 x.back, .int .i64 x.epoch, .int .i64 x.group, .int .i64 x.page, .int .i64 x.kind, .int .i64 x.slot, .slice A2 k2 c2, .slice A3 k3 c3, .bool x.last] 33))
      have hb1 : w.heap.size ≤ (w2.alloc (.cells #[.int .i64 x.lsn, .int .i64 x.back, .int .i64 x.epoch, .int .i64 x.group, .int .i64 x.page, .int .i64 x.kind, .int .i64 x.slot, .slice A2 k2 c2, .slice A3 k3 c3, .bool x.last] 33)).heap.size := FF.size
      have hln : ((l.take k).length + [x].length) * 112 ≤ 140737488355328 := by simp only [List.length_take, List.length_cons, List.length_nil]; omega
      clear g0 g1 g2 g3 g4 g5 g6 g7 g8 g9 o2 o3 f2 F2 F1 s2 s3
      go_wp2_with (at_builtin; refine wpList_app rfl rfl Tryz.underlying27 info_redo rfl (by decide) HO2 HY rfl rfl (fun b hb _ => hb) hln hb1 ?_; intro v' w' h3 h4 h5)
      rw [← take_snoc Hx.out] at h3
      have F3 : Fr All w w' := FF.row h4.grown fun m hm => by have := own_lt HO m hm; omega
      go_roundw
      case rel => exact ⟨k + 1, by omega, by go_num, h3, F3⟩
      case measure => simp [intOf]; omega
    · obtain rfl : k = n := by omega
      rw [List.take_of_length_le (by rw [En.out]; exact Nat.le_refl _)] at HO ⊢
      rw [En.out] at HO ⊢
      go_wp2_with fail
      go_ret
      have e := En.out
      exact ⟨A', c', by rw [e]; rfl, by rw [e]; exact HO, HF⟩

/-- redo.Sort of at most twenty records, or of records that rise. -/
theorem redo_sort {l : List Redo} {v : Value} {S : Nat → Prop} {w : World} (h : Sl kRedo S w v l) (hn : Sorts l) (ok : RedosOk l) :
    Calls Tryz.prog 100 #[v] w fun e w' => ∃ A' n c' l', e = .returned (.slice A' n c') ∧ PermR l' l ∧ Sl kRedo (From w.heap.size) w' (.slice A' n c') l' ∧ Fr All w w' := by
  obtain ⟨A, n, c, rfl, en, _⟩ := h.open_
  subst en
  go_enter Tryz.func100, Tryz.ntmps100
  go_wp2_with fail
  refine (redo_clones h ok).mono ?_
  rintro e w1 ⟨A1, c1, rfl, o1, f1⟩
  go_wp2_with fail
  refine (sort_any o1 hn).mono ?_
  rintro e w2 ⟨rfl, l2, p2, o2, f2⟩
  go_wp2_with fail
  go_ret
  refine ⟨A1, l.length, c1, l2, rfl, p2, o2.sl_in (fun b hb _ => hb) (fun b hb _ => hb), ?_⟩
  exact ⟨f2.os.trans f1.os, f2.tape.trans f1.tape, f2.output.trans f1.output, Nat.le_trans f1.size f2.size, fun b hb _ => (f2.block b (Nat.lt_of_lt_of_le hb f1.size) (fun e => by have := own_lt o1 b e.symm; omega)).trans (f1.block b hb trivial)⟩
end Go.Proofs.YtoaamcpiljoojaaGreatDoor
