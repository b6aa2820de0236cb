/- vers.At: a page as it was. -/
import Derived.Test.YtoaamcpiljoojaaGreatDoorAbv
import Derived.Test.YtoaamcpiljoojaaGreatDoorAll
import Derived.Test.YtoaamcpiljoojaaGreatDoorSee
import Derived.Test.YtoaamcpiljoojaaGreatDoorHClone
namespace Go.Proofs.YtoaamcpiljoojaaGreatDoor
open Go.RowKit

theorem ofL_rise {l : List Redo} (h : Rise l) (id y : Int) : Rise (ofL l id y) := h.sublist List.filter_sublist
theorem ofL_mem {l : List Redo} {id y : Int} {r : Redo} : r ∈ ofL l id y ↔ r ∈ l ∧ r.page = id ∧ r.lsn ≤ y := by
  unfold ofL
  rw [List.mem_filter, Bool.and_eq_true, beq_iff_eq, decide_eq_true_eq]
def page0 (id : Int) : Page := ⟨id, 0, 0, -1, []⟩
set_option maxRecDepth 100000 in
set_option maxHeartbeats 2000000 in
theorem at_call {S : Nat → Prop} {w : World} {B : Nat} {lv sv : Value} {s : HSt} (h : Hg S w B lv sv s) {id y : Int} (i0 : 0 ≤ id) (i1 : id < 256) (y0 : 0 ≤ y) (y1 : y ≤ 1099511627776) (hne : ofL s.l id y ≠ []):
    Calls Tryz.prog 31 #[.pointer (some ⟨B, 0, none⟩), .int .i64 id, .int .i64 y] w fun e w' => ∃ q A c, q = pall (page0 id) (ofL s.l id y) ∧ e = .returned (.tuple #[.agg #[.int .i64 q.id, .int .i64 q.lsn, .int .i64 q.level, .int .i64 q.next, .slice A q.ents.length c], .nilIface]) ∧ Sl kEnt All w' (.slice A q.ents.length c) q.ents ∧ Fr All w w' := by
  have hok := h.ok
  have hR : RightL (ofL s.l id y) := fun r hr => hok.valid r (ofL_mem.1 hr).1
  have hris := ofL_rise hok.rise id y
  have hlen : 0 < (ofL s.l id y).length := List.length_pos_iff.2 hne
  have h20 : (ofL s.l id y).length ≤ 16384 := Nat.le_trans (List.length_filter_le _ _) hok.few
  have H := Lib.hid h
  have HR := Lib.hid hR
  have HI := Lib.hid hris
  clear hok hR hris hne h
  have F0 := (Fr.refl All w).alloc (.cells #[.int .i64 0, .int .i64 0, .int .i64 0, .int .i64 0, .slice none 0 0] 67)
  have P0 := heap_alloc_new w (.cells #[.int .i64 0, .int .i64 0, .int .i64 0, .int .i64 0, .slice none 0 0] 67)
  go_enter Tryz.func31, Tryz.ntmps31
  go_wp2_with fail
  refine (of_call (H.out.all F0) id y).mono ?_
  rintro e w1 ⟨A1, c1, rfl, o1, f1⟩
  have F1 := F0.trans f1
  have P1 := (f1.block _ (blk_lt P0) trivial).trans P0
  have O1 := Lib.hid o1.sl
  have hl1 : decide ((ofL s.l id y).length = 0) = false := decide_eq_false (by omega)
  obtain ⟨n, hn⟩ : ∃ n, (ofL s.l id y).length = n := ⟨_, rfl⟩
  rw [hn] at h20 hlen O1
  have En := Lib.hid hn
  simp only [hn]
  clear o1 f1 P0 F0 hl1 hn
  go_wp2_with fail
  refine (page_new id w1).mono ?_
  rintro e w2 ⟨A2, c2, rfl, o2, f2⟩
  have F2 := F1.trans f2
  have P2 := (f2.block _ (blk_lt P1) trivial).trans P1
  have O2 := Lib.hid o2.sl
  have O1 := Lib.hid (O1.out.all f2)
  clear o2 f2 F1 P1
  go_wp2_with fail
  refine (page_all (p := page0 id) O2.out ⟨Nat.zero_le _, fun e he => by cases he⟩ O1.out (.inr ⟨HI.out, by rw [En.out]; exact h20⟩) HR.out).mono ?_
  rintro e w3 ⟨l', q, A, c, hp, hq, rfl, o3, f3⟩
  obtain rfl := hp.same HI.out
  obtain ⟨p0, p1, p2, p3, p4, pz⟩ := blk5 ((f3.block _ (blk_lt P2) trivial).trans P2)
  have F3 := F2.trans f3
  have hz2 : w.heap.size < w2.heap.size := blk_lt P2
  have HQ := Lib.hid hq
  clear f3 F2 P2 hp hq
  go_wp2_with fail
  refine bodyPost_ret (v := .tuple #[.agg #[.int .i64 q.id, .int .i64 q.lsn, .int .i64 q.level, .int .i64 q.next, .slice A q.ents.length c], .nilIface]) ?_ rfl ⟨q, A, c, HQ.out, rfl, ?_, ?_⟩
  · simp [results, Tryz.results31, go_sem, p0, p1, p2, p3, p4]
  · refine (Sl.mono (o3.move ?_) (T := All)) fun _ _ _ => trivial
    repeat (first | (with_reducible exact Fr.refl _ _) | with_reducible refine Fr.setCell ?_ (fun m hm => by dsimp only; omega) _)
  · repeat (first | (with_reducible exact F3) | with_reducible refine Fr.setNew ?_ (by dsimp only; omega) _)
set_option maxRecDepth 100000 in
set_option maxHeartbeats 2000000 in
theorem at_none {qs : List Addr} {S : Nat → Prop} {w : World} {B : Nat} {lv sv : Value} {s : HSt} (hq : Errs w qs) (h : Hg S w B lv sv s) {id y : Int} (i0 : 0 ≤ id) (i1 : id < 256) (y0 : 0 ≤ y) (y1 : y ≤ 1099511627776) (hne : ofL s.l id y = []) :
    Calls Tryz.prog 31 #[.pointer (some ⟨B, 0, none⟩), .int .i64 id, .int .i64 y] w fun e w' => ∃ a, qs[6]? = some a ∧ e = .returned (.tuple #[.agg #[.int .i64 0, .int .i64 0, .int .i64 0, .int .i64 0, .slice none 0 0], errV a]) ∧ Fr All w w' := by
  obtain ⟨a, ha, hcell⟩ := hq.at 6 "sextet/api.ErrNone" 4 rfl (by kernel_rfl)
  have H := Lib.hid h
  clear h
  have F0 := (Fr.refl All w).alloc (.cells #[.int .i64 0, .int .i64 0, .int .i64 0, .int .i64 0, .slice none 0 0] 67)
  have P0 := heap_alloc_new w (.cells #[.int .i64 0, .int .i64 0, .int .i64 0, .int .i64 0, .slice none 0 0] 67)
  go_enter Tryz.func31, Tryz.ntmps31
  go_wp2_with fail
  refine (of_call (H.out.all F0) id y).mono ?_
  rintro e w1 ⟨A1, c1, rfl, o1, f1⟩
  have F1 := F0.trans f1
  obtain ⟨p0, p1, p2, p3, p4, pz⟩ := blk5 ((f1.block _ (blk_lt P0) trivial).trans P0)
  have hc := F1.cell trivial hcell
  rw [hne, List.length_nil]
  have hG : 4 < w.heap.size := World.block_lt_of_cell? w ⟨4, 0, none⟩ hcell
  clear o1 f1 P0 F0 hcell
  go_upto_region 5 with (fail)
  refine wp_region_all (S := fun w' => w'.cell? ⟨4, 0, none⟩ = some (errV a)) (by kernel_rfl) hc (fun hHeld => ?_)
  refine wpAnyH_take (i := 0) (v := ?_) rfl (by kernel_rfl) (by kernel_rfl) (by kernel_rfl) (fun _ _ _ h => h) (Or.inl ⟨by rfl, ?_⟩) (by assumption) ?_
  rotate_left
  · (intro w hSw; (try dsimp only at hSw); go_simp; try with_reducible rfl)
  try simp only [Act.put]
  try simp only [List.setIfInBounds_toArray]
  try simp only [List.set_cons_succ]
  try simp only [List.set_cons_zero]
  refine wpAnyH_take (i := 1) (v := ?_) rfl (by kernel_rfl) (by kernel_rfl) (by kernel_rfl) (fun _ _ _ h => h) (Or.inl ⟨by rfl, ?_⟩) (by assumption) ?_
  rotate_left
  · (intro w hSw; (try dsimp only at hSw); go_simp; try with_reducible rfl)
  try simp only [Act.put]
  try simp only [List.setIfInBounds_toArray]
  try simp only [List.set_cons_succ]
  try simp only [List.set_cons_zero]
  refine wpAnyH_ready (rs := [2]) (by kernel_rfl) (by simp) (AllReadyH.cons rfl (fun K hK => ?_) AllReadyH.nil)
  go_simp
  refine hK.out _ _ ?_ (fun hHeld => ?_)
  · exact Fr.cell (S := fun b => b ≠ w.heap.size) (by
      repeat (first | (with_reducible exact Fr.refl _ _) | with_reducible refine Fr.drew ?_ | with_reducible refine Fr.setCell ?_ (fun m hm => by exact hm) _)) (by dsimp only; omega) hc
  clear hK K
  try simp only [Act.put]
  try simp only [List.setIfInBounds_toArray]
  try simp only [List.set_cons_succ]
  try simp only [List.set_cons_zero]
  refine wpAnyH_take (i := 3) (v := ?_) rfl (by kernel_rfl) (by kernel_rfl) (by kernel_rfl) (fun _ _ _ h => h) (Or.inl ⟨by rfl, ?_⟩) (by assumption) ?_
  rotate_left
  · (intro w hSw; (try dsimp only at hSw); go_simp; try with_reducible rfl)
  try simp only [Act.put]
  try simp only [List.setIfInBounds_toArray]
  try simp only [List.set_cons_succ]
  try simp only [List.set_cons_zero]
  try simp only [List.getElem_toArray, List.getElem_cons_succ, List.getElem_cons_zero, List.set_cons_succ, List.set_cons_zero]
  refine wpAnyH_done (by kernel_rfl) ?_ _
  go_wp2_with fail
  refine bodyPost_ret (v := .tuple #[.agg #[.int .i64 0, .int .i64 0, .int .i64 0, .int .i64 0, .slice none 0 0], errV a]) ?_ rfl ⟨a, ha, rfl, ?_⟩
  · simp [results, Tryz.results31, go_sem, p0, p1, p2, p3, p4, errV]
  · repeat (first | (with_reducible exact F1) | with_reducible refine Fr.drew ?_ | with_reducible refine Fr.setNew ?_ (by dsimp only; omega) _)
end Go.Proofs.YtoaamcpiljoojaaGreatDoor
