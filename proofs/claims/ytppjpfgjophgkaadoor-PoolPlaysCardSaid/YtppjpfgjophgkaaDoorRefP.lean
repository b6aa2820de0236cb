/- The document's copies of entries and of a page, in rows of their own. -/
import Derived.Test.YtppjpfgjophgkaaDoorRefY
import Derived.Test.YtppjpfgjophgkaaDoorVIx
import Derived.Test.YtppjpfgjophgkaaDoorLast3
import Derived.Deep.Cut
import Derived.Test.YtppjpfgjophgkaaDoorPClone
namespace Go.Proofs.YtppjpfgjophgkaaDoor
open Go.RowKit

set_option maxHeartbeats 1000000 in
theorem ref_entry {x : Ent} {A0 A1 : Option Addr} {n0 c0 n1 c1 : Nat} {S0 S1 : Nat → Prop} {w : World} (k0 : Sl kByte S0 w (.slice A0 n0 c0) x.key) (k1 : Sl kByte S1 w (.slice A1 n1 c1) x.val) (h0 : x.key.length ≤ 1000000) (h1 : x.val.length ≤ 1000000) :
    Calls Tryd.prog 39 #[.agg #[.slice A0 n0 c0, .slice A1 n1 c1]] w fun e w' => ∃ B0 d0 B1 d1, e = .returned (.agg #[.slice B0 x.key.length d0, .slice B1 x.val.length d1]) ∧ Sl kByte (From w.heap.size) w' (.slice B0 x.key.length d0) x.key ∧ Sl kByte (From w.heap.size) w' (.slice B1 x.val.length d1) x.val ∧ Fr All w w' := by
  have P := heap_alloc2_old w (.cells #[.slice A0 n0 c0, .slice A1 n1 c1] 65) (.cells #[.slice none 0 0, .slice none 0 0] 65)
  have Q := heap_alloc2_new w (.cells #[.slice A0 n0 c0, .slice A1 n1 c1] 65) (.cells #[.slice none 0 0, .slice none 0 0] 65)
  have F0 := ((Fr.refl All w).alloc (.cells #[.slice A0 n0 c0, .slice A1 n1 c1] 65)).alloc (.cells #[.slice none 0 0, .slice none 0 0] 65)
  have hz : ((w.alloc (.cells #[.slice A0 n0 c0, .slice A1 n1 c1] 65)).alloc (.cells #[.slice none 0 0, .slice none 0 0] 65)).heap.size = w.heap.size + 2 := by simp
  obtain ⟨W, hW⟩ : ∃ W, (w.alloc (.cells #[.slice A0 n0 c0, .slice A1 n1 c1] 65)).alloc (.cells #[.slice none 0 0, .slice none 0 0] 65) = W := ⟨_, rfl⟩
  rw [hW] at P Q F0 hz
  obtain ⟨p0, p1, pz⟩ := blk2 P
  obtain ⟨q0, q1, qz⟩ := blk2 Q
  have HF0 := Lib.hid F0
  have HK0 := Lib.hid (k0.all F0)
  have HK1 := Lib.hid (k1.all F0)
  clear k0 k1 P Q F0
  go_enter Tryd.func39, Tryd.ntmps39
  go_upto_region 1 with (fail)
  clear hW
  refine wp_region_last (S := fun w' => w'.cell? ⟨w.heap.size, 0, none⟩ = some (.slice A0 n0 c0) ∧ w'.cell? ⟨w.heap.size, 1, none⟩ = some (.slice A1 n1 c1)) 7 (by kernel_rfl) rfl (by kernel_rfl) ⟨p0, p1⟩ (fun hHeld => ?_)
  simp only [List.take_succ_cons, List.take_zero]
  refine wpAnyH_take (i := 0) (v := ?_) rfl (by kernel_rfl) (by kernel_rfl) (by kernel_rfl) (fun _ _ _ h => h) (Or.inl ⟨by rfl, ?_⟩) (by assumption) ?_
  rotate_left
  · (intro w hSw; (try dsimp only at hSw); go_simp; try with_reducible rfl)
  try simp only [Act.put]
  try simp only [List.setIfInBounds_toArray]
  try simp only [List.set_cons_succ]
  try simp only [List.set_cons_zero]
  refine wpAnyH_take (i := 1) (v := ?_) rfl (by kernel_rfl) (by kernel_rfl) (by kernel_rfl) (fun _ _ _ h => h) (Or.inl ⟨by rfl, ?_⟩) (by assumption) ?_
  rotate_left
  · (intro w hSw; (try dsimp only at hSw); go_simp; try with_reducible rfl)
  try simp only [Act.put]
  try simp only [List.setIfInBounds_toArray]
  try simp only [List.set_cons_succ]
  try simp only [List.set_cons_zero]
  refine wpAnyH_take (i := 3) (v := ?_) rfl (by kernel_rfl) (by kernel_rfl) (by kernel_rfl) (fun _ _ _ h => h) (Or.inl ⟨by rfl, ?_⟩) (by assumption) ?_
  rotate_left
  · (intro w hSw; (try dsimp only at hSw); go_simp; try with_reducible rfl)
  try simp only [Act.put]
  try simp only [List.setIfInBounds_toArray]
  try simp only [List.set_cons_succ]
  try simp only [List.set_cons_zero]
  refine wpAnyH_take (i := 4) (v := ?_) rfl (by kernel_rfl) (by kernel_rfl) (by kernel_rfl) (fun _ _ _ h => h) (Or.inl ⟨by rfl, ?_⟩) (by assumption) ?_
  rotate_left
  · (intro w hSw; (try dsimp only at hSw); go_simp; try with_reducible rfl)
  try simp only [Act.put]
  try simp only [List.setIfInBounds_toArray]
  try simp only [List.set_cons_succ]
  try simp only [List.set_cons_zero]
  refine wpAnyH_ready (rs := [2]) (by kernel_rfl) (by simp) (AllReadyH.cons rfl (fun K hK => ?_) AllReadyH.nil)
  go_simp
  refine (ref_bytes2 (HK0.out.all (Fr.refl All W).drew) h0).mono ?_
  rintro e w1 ⟨A2, n2, rfl, o1, f1⟩
  go_simp
  have F1 : Fr All W w1 := (Fr.refl All W).drew.then_all f1
  refine hK.out _ _ ⟨F1.cell trivial p0, F1.cell trivial p1⟩ (fun hHeld => ?_)
  clear hK K
  try simp only [Act.put]
  try simp only [List.setIfInBounds_toArray]
  try simp only [List.set_cons_succ]
  try simp only [List.set_cons_zero]
  refine wpAnyH_ready (rs := [5]) (by kernel_rfl) (by simp) (AllReadyH.cons rfl (fun K hK => ?_) AllReadyH.nil)
  go_simp
  refine (ref_bytes2 (HK1.out.all F1) h1).mono ?_
  rintro e w2 ⟨A3, n3, rfl, o2, f2⟩
  go_simp
  have F2 : Fr All W w2 := F1.then_all f2
  refine hK.out _ _ ⟨F2.cell trivial p0, F2.cell trivial p1⟩ (fun hHeld => ?_)
  clear hK K
  try simp only [Act.put]
  try simp only [List.setIfInBounds_toArray]
  try simp only [List.set_cons_succ]
  try simp only [List.set_cons_zero]
  refine wpAnyH_take (i := 6) (v := ?_) rfl (by kernel_rfl) (by kernel_rfl) (by kernel_rfl) (fun _ _ _ h => h) (Or.inl ⟨by rfl, ?_⟩) (by assumption) ?_
  rotate_left
  · (intro w hSw; (try dsimp only at hSw); go_simp; try with_reducible rfl)
  try simp only [Act.put]
  try simp only [List.setIfInBounds_toArray]
  try simp only [List.set_cons_succ]
  try simp only [List.set_cons_zero]
  refine wpAnyH_done (by kernel_rfl) ?_ _
  show wpList _ _ _ _ _ _
  have Q2 := F2.block (w.heap.size + 1) (by omega) trivial
  have x0 := F2.cell trivial q0
  have x1 := F2.cell trivial q1
  have xz : ∀ j, w2.frozen? ⟨w.heap.size + 1, j, none⟩ = false := fun j => (World.frozen?_of_block (a := ⟨w.heap.size + 1, j, none⟩) Q2).trans (qz j)
  go_wp2_with fail
  have z1 := f1.size
  have z2 := f2.size
  have zd : W.drew.heap.size = W.heap.size := rfl
  have FS : Fr (fun b => b ≠ w.heap.size + 1) w2 ((w2.setCell ⟨w.heap.size + 1, 0, none⟩ (.slice A2 x.key.length n2)).setCell ⟨w.heap.size + 1, 1, none⟩ (.slice A3 x.val.length n3)) := by
    repeat (first | (with_reducible exact Fr.refl _ _) | with_reducible refine Fr.setCell ?_ (fun m hm => by exact hm) _)
  refine bodyPost_ret (v := .agg #[.slice A2 x.key.length n2, .slice A3 x.val.length n3]) ?_ rfl ⟨A2, n2, A3, n3, rfl, ?_, ?_, ?_⟩
  · simp [results, Tryd.results39, go_sem, x0, x1]
  · exact (((o1.all f2).plain_in (T := fun b => w.heap.size + 2 ≤ b) (fun b hb _ => by omega)).move' FS (fun b hb _ => by omega)).mono fun b hb _ => by unfold From; omega
  · exact ((o2.plain_in (T := fun b => w.heap.size + 2 ≤ b) (fun b hb _ => by omega)).move' FS (fun b hb _ => by omega)).mono fun b hb _ => by unfold From; omega
  · have FF := HF0.out.trans F2
    repeat (first | (with_reducible exact FF) | with_reducible refine Fr.setNew ?_ (by dsimp only; omega) _)
set_option maxHeartbeats 1000000 in
theorem ref_entrys {v : Value} {xs : List Ent} {S : Nat → Prop} {w : World} (h : Sl kEnt S w v xs) (ok : EntsOk xs) :
    Calls Tryd.prog 33 #[v] w fun e w' => ∃ A c, e = .returned (.slice A xs.length c) ∧ Own kEnt 65 w.heap.size (From w.heap.size) w' (.slice A xs.length c) xs ∧ Fr All w w' := by
  obtain ⟨A, n, c, rfl, en, _⟩ := h.open_
  have En := Lib.hid en
  have OK := Lib.hid ok
  have hn : n ≤ 1000000 := by have := ok.1; omega
  clear en ok
  by_cases h0 : n = 0
  · subst h0
    obtain rfl : xs = [] := List.eq_nil_of_length_eq_zero En.out
    clear En OK
    go_enter Tryd.func33, Tryd.ntmps33
    go_wp2_with fail
    go_ret
    exact ⟨none, 0, rfl, Own.nil_ _ _ _ _ _, Fr.refl _ _⟩
  · obtain ⟨w1, hmk, o1, f1⟩ := run_mk (P := Tryd.prog) kEnt (From w.heap.size) w w.heap.size 28 65 (.agg #[.slice none 0 0, .slice none 0 0]) 48 Tryd.underlying28 info_ent n (by omega) (by simp only [maxLen]; omega) (Nat.le_refl _)
    have hd0 : ((n : Int) == 0) = false := beq_false_of_ne (by omega)
    go_enter Tryd.func33, Tryd.ntmps33
    go_wp2_with fail
    clear hmk hd0
    go_loopw [3, 4] (fun u i wr => ∃ k : Nat, k ≤ n ∧ i = .int .i64 k ∧ Own kEnt 65 w.heap.size (From w.heap.size) wr u (xs.take k) ∧ Fr All w wr) (fun _ i _ => n - (intOf i).toNat)
    case atStart => exact ⟨0, Nat.zero_le _, rfl, o1, f1⟩
    case round =>
      obtain ⟨k, hk, rfl, HO, HF⟩ := hrel
      by_cases hlt : k < n
      · obtain ⟨x, hx, hm⟩ := get_of (l := xs) (k := k) (by rw [En.out]; exact hlt)
        obtain ⟨b, o, A0, n0, c0, A1, n1, c1, rfl, x0, x1, k0, k1⟩ := ent_at (h.all HF) hx
        have b0 : (0 : Int) ≤ (k : Int) := by omega
        have b1 : (k : Int) < (n : Int) := by omega
        have Hx := Lib.hid hx
        have hq := OK.out.2 x hm
        clear hx hm
        go_wp2_with fail
        refine (ref_entry k0 k1 hq.1 hq.2).mono ?_
        rintro e w2 ⟨B0, d0, B1, d1, rfl, s0, s1, f2⟩
        have hlo := own_lt HO
        have FB := f2.alloc (.cells #[.slice B0 x.key.length d0, .slice B1 x.val.length d1] 65)
        have HO2 := HO.all FB
        have HY : Src kEnt (From wr.heap.size) (w2.alloc (.cells #[.slice B0 x.key.length d0, .slice B1 x.val.length d1] 65)) (.slice (some ⟨w2.heap.size, 0, none⟩) 1 1) [x] := Src.box (d := kEnt) (x := x) (kEnt_mk s0 s1) _ 1
        have hne : ∀ b, From wr.heap.size b → b < (w2.alloc (.cells #[.slice B0 x.key.length d0, .slice B1 x.val.length d1] 65)).heap.size → From w.heap.size b ∧ some b ≠ u3.ownBlock := fun b hb _ => ⟨Nat.le_trans HF.size hb, fun e => by have := (hlo b e.symm).2; unfold From at hb; omega⟩
        have hl : ((xs.take k).length + [x].length) * 48 ≤ 140737488355328 := by rw [List.length_take]; simp only [List.length_cons, List.length_nil]; omega
        have hb6 : w.heap.size ≤ (w2.alloc (.cells #[.slice B0 x.key.length d0, .slice B1 x.val.length d1] 65)).heap.size := (HF.trans FB).size
        clear x0 x1 k0 k1 hq
        go_wp2_with (at_builtin; refine wpList_app rfl rfl Tryd.underlying28 info_ent rfl (by decide) HO2 HY rfl rfl hne hl hb6 ?_; intro v' w' h3 h4 h5)
        have F3 : Fr All w w' := (HF.trans FB).row h4.grown fun m hm => (own_lt HO2 m hm).1
        rw [← take_snoc Hx.out] at h3
        go_roundw
        case rel => exact ⟨k + 1, by omega, by go_num, h3, F3⟩
        case measure => simp [intOf]; omega
      · obtain rfl : k = n := by omega
        rw [List.take_of_length_le (by rw [En.out]; exact Nat.le_refl _)] at HO
        obtain ⟨A', c', rfl⟩ := HO.length
        go_wp2_with fail
        go_ret
        exact ⟨A', c', rfl, HO, HF⟩
set_option maxHeartbeats 1000000 in
theorem ref_page {p : Page} {v : Value} {S : Nat → Prop} {w : World} (h : Sl kEnt S w v p.ents) (ok : EntsOk p.ents) :
    Calls Tryd.prog 14 #[.agg #[.int .i64 p.id, .int .i64 p.lsn, .int .i64 p.level, .int .i64 p.next, v]] w fun e w' => ∃ A c, e = .returned (.agg #[.int .i64 p.id, .int .i64 p.lsn, .int .i64 p.level, .int .i64 p.next, .slice A p.ents.length c]) ∧ Own kEnt 65 (w.heap.size + 2) (From (w.heap.size + 2)) w' (.slice A p.ents.length c) p.ents ∧ Fr All w w' := by
  obtain ⟨A0, n0, c0, rfl, en, _⟩ := h.open_
  have P := heap_alloc2_old w (.cells #[.int .i64 p.id, .int .i64 p.lsn, .int .i64 p.level, .int .i64 p.next, .slice A0 n0 c0] 30) (.cells #[.int .i64 0, .int .i64 0, .int .i64 0, .int .i64 0, .slice none 0 0] 30)
  have Q := heap_alloc2_new w (.cells #[.int .i64 p.id, .int .i64 p.lsn, .int .i64 p.level, .int .i64 p.next, .slice A0 n0 c0] 30) (.cells #[.int .i64 0, .int .i64 0, .int .i64 0, .int .i64 0, .slice none 0 0] 30)
  have F0 := ((Fr.refl All w).alloc (.cells #[.int .i64 p.id, .int .i64 p.lsn, .int .i64 p.level, .int .i64 p.next, .slice A0 n0 c0] 30)).alloc (.cells #[.int .i64 0, .int .i64 0, .int .i64 0, .int .i64 0, .slice none 0 0] 30)
  have hz : ((w.alloc (.cells #[.int .i64 p.id, .int .i64 p.lsn, .int .i64 p.level, .int .i64 p.next, .slice A0 n0 c0] 30)).alloc (.cells #[.int .i64 0, .int .i64 0, .int .i64 0, .int .i64 0, .slice none 0 0] 30)).heap.size = w.heap.size + 2 := by simp
  obtain ⟨W, hW⟩ : ∃ W, (w.alloc (.cells #[.int .i64 p.id, .int .i64 p.lsn, .int .i64 p.level, .int .i64 p.next, .slice A0 n0 c0] 30)).alloc (.cells #[.int .i64 0, .int .i64 0, .int .i64 0, .int .i64 0, .slice none 0 0] 30) = W := ⟨_, rfl⟩
  rw [hW] at P Q F0 hz
  obtain ⟨p0, p1, p2, p3, p4, pz⟩ := blk5 P
  obtain ⟨q0, q1, q2, q3, q4, qz⟩ := blk5 Q
  have HF0 := Lib.hid F0
  have HK0 := Lib.hid (h.all F0)
  clear h P Q F0 en
  go_enter Tryd.func14, Tryd.ntmps14
  go_upto_region 1 with (fail)
  clear hW
  refine wp_region_last (S := fun w' => w'.cell? ⟨w.heap.size, 0, none⟩ = some (.int .i64 p.id) ∧ w'.cell? ⟨w.heap.size, 1, none⟩ = some (.int .i64 p.lsn) ∧ w'.cell? ⟨w.heap.size, 2, none⟩ = some (.int .i64 p.level) ∧ w'.cell? ⟨w.heap.size, 3, none⟩ = some (.int .i64 p.next) ∧ w'.cell? ⟨w.heap.size, 4, none⟩ = some (.slice A0 n0 c0)) 12 (by kernel_rfl) rfl (by kernel_rfl) ⟨p0, p1, p2, p3, p4⟩ (fun hHeld => ?_)
  simp only [List.take_succ_cons, List.take_zero]
  refine wpAnyH_take (i := 0) (v := ?_) rfl (by kernel_rfl) (by kernel_rfl) (by kernel_rfl) (fun _ _ _ h => h) (Or.inl ⟨by rfl, ?_⟩) (by assumption) ?_
  rotate_left
  · (intro w hSw; (try dsimp only at hSw); go_simp; try with_reducible rfl)
  try simp only [List.getElem_toArray, List.getElem_cons_succ, List.getElem_cons_zero, Act.put, List.setIfInBounds_toArray, List.set_cons_succ, List.set_cons_zero]
  refine wpAnyH_take (i := 1) (v := ?_) rfl (by kernel_rfl) (by kernel_rfl) (by kernel_rfl) (fun _ _ _ h => h) (Or.inl ⟨by rfl, ?_⟩) (by assumption) ?_
  rotate_left
  · (intro w hSw; (try dsimp only at hSw); go_simp; try with_reducible rfl)
  try simp only [List.getElem_toArray, List.getElem_cons_succ, List.getElem_cons_zero, Act.put, List.setIfInBounds_toArray, List.set_cons_succ, List.set_cons_zero]
  refine wpAnyH_take (i := 2) (v := ?_) rfl (by kernel_rfl) (by kernel_rfl) (by kernel_rfl) (fun _ _ _ h => h) (Or.inl ⟨by rfl, ?_⟩) (by assumption) ?_
  rotate_left
  · (intro w hSw; (try dsimp only at hSw); go_simp; try with_reducible rfl)
  try simp only [List.getElem_toArray, List.getElem_cons_succ, List.getElem_cons_zero, Act.put, List.setIfInBounds_toArray, List.set_cons_succ, List.set_cons_zero]
  refine wpAnyH_take (i := 3) (v := ?_) rfl (by kernel_rfl) (by kernel_rfl) (by kernel_rfl) (fun _ _ _ h => h) (Or.inl ⟨by rfl, ?_⟩) (by assumption) ?_
  rotate_left
  · (intro w hSw; (try dsimp only at hSw); go_simp; try with_reducible rfl)
  try simp only [List.getElem_toArray, List.getElem_cons_succ, List.getElem_cons_zero, Act.put, List.setIfInBounds_toArray, List.set_cons_succ, List.set_cons_zero]
  refine wpAnyH_take (i := 4) (v := ?_) rfl (by kernel_rfl) (by kernel_rfl) (by kernel_rfl) (fun _ _ _ h => h) (Or.inl ⟨by rfl, ?_⟩) (by assumption) ?_
  rotate_left
  · (intro w hSw; (try dsimp only at hSw); go_simp; try with_reducible rfl)
  try simp only [List.getElem_toArray, List.getElem_cons_succ, List.getElem_cons_zero, Act.put, List.setIfInBounds_toArray, List.set_cons_succ, List.set_cons_zero]
  refine wpAnyH_take (i := 5) (v := ?_) rfl (by kernel_rfl) (by kernel_rfl) (by kernel_rfl) (fun _ _ _ h => h) (Or.inl ⟨by rfl, ?_⟩) (by assumption) ?_
  rotate_left
  · (intro w hSw; (try dsimp only at hSw); go_simp; try with_reducible rfl)
  try simp only [List.getElem_toArray, List.getElem_cons_succ, List.getElem_cons_zero, Act.put, List.setIfInBounds_toArray, List.set_cons_succ, List.set_cons_zero]
  refine wpAnyH_take (i := 6) (v := ?_) rfl (by kernel_rfl) (by kernel_rfl) (by kernel_rfl) (fun _ _ _ h => h) (Or.inl ⟨by rfl, ?_⟩) (by assumption) ?_
  rotate_left
  · (intro w hSw; (try dsimp only at hSw); go_simp; try with_reducible rfl)
  try simp only [List.getElem_toArray, List.getElem_cons_succ, List.getElem_cons_zero, Act.put, List.setIfInBounds_toArray, List.set_cons_succ, List.set_cons_zero]
  refine wpAnyH_take (i := 7) (v := ?_) rfl (by kernel_rfl) (by kernel_rfl) (by kernel_rfl) (fun _ _ _ h => h) (Or.inl ⟨by rfl, ?_⟩) (by assumption) ?_
  rotate_left
  · (intro w hSw; (try dsimp only at hSw); go_simp; try with_reducible rfl)
  try simp only [List.getElem_toArray, List.getElem_cons_succ, List.getElem_cons_zero, Act.put, List.setIfInBounds_toArray, List.set_cons_succ, List.set_cons_zero]
  refine wpAnyH_take (i := 8) (v := ?_) rfl (by kernel_rfl) (by kernel_rfl) (by kernel_rfl) (fun _ _ _ h => h) (Or.inl ⟨by rfl, ?_⟩) (by assumption) ?_
  rotate_left
  · (intro w hSw; (try dsimp only at hSw); go_simp; try with_reducible rfl)
  try simp only [List.getElem_toArray, List.getElem_cons_succ, List.getElem_cons_zero, Act.put, List.setIfInBounds_toArray, List.set_cons_succ, List.set_cons_zero]
  refine wpAnyH_take (i := 9) (v := ?_) rfl (by kernel_rfl) (by kernel_rfl) (by kernel_rfl) (fun _ _ _ h => h) (Or.inl ⟨by rfl, ?_⟩) (by assumption) ?_
  rotate_left
  · (intro w hSw; (try dsimp only at hSw); go_simp; try with_reducible rfl)
  try simp only [List.getElem_toArray, List.getElem_cons_succ, List.getElem_cons_zero, Act.put, List.setIfInBounds_toArray, List.set_cons_succ, List.set_cons_zero]
  refine wpAnyH_ready (rs := [10]) (by kernel_rfl) (by simp) (AllReadyH.cons rfl (fun K hK => ?_) AllReadyH.nil)
  go_simp
  refine (ref_entrys (HK0.out.all (Fr.refl All W).drew) ok).mono ?_
  rintro e w1 ⟨A2, n2, rfl, s1, f1⟩
  go_simp
  have F2 : Fr All W w1 := (Fr.refl All W).drew.then_all f1
  refine hK.out _ _ ⟨F2.cell trivial p0, F2.cell trivial p1, F2.cell trivial p2, F2.cell trivial p3, F2.cell trivial p4⟩ (fun hHeld => ?_)
  clear hK K
  try simp only [List.getElem_toArray, List.getElem_cons_succ, List.getElem_cons_zero, Act.put, List.setIfInBounds_toArray, List.set_cons_succ, List.set_cons_zero]
  refine wpAnyH_take (i := 11) (v := ?_) rfl (by kernel_rfl) (by kernel_rfl) (by kernel_rfl) (fun _ _ _ h => h) (Or.inl ⟨by rfl, ?_⟩) (by assumption) ?_
  rotate_left
  · (intro w hSw; (try dsimp only at hSw); go_simp; try with_reducible rfl)
  try simp only [List.getElem_toArray, List.getElem_cons_succ, List.getElem_cons_zero, Act.put, List.setIfInBounds_toArray, List.set_cons_succ, List.set_cons_zero]
  refine wpAnyH_done (by kernel_rfl) ?_ _
  show wpList _ _ _ _ _ _
  have Q2 := F2.block (w.heap.size + 1) (by omega) trivial
  have x0 := F2.cell trivial q0
  have x1 := F2.cell trivial q1
  have x2 := F2.cell trivial q2
  have x3 := F2.cell trivial q3
  have x4 := F2.cell trivial q4
  have xz : ∀ j, w1.frozen? ⟨w.heap.size + 1, j, none⟩ = false := fun j => (World.frozen?_of_block (a := ⟨w.heap.size + 1, j, none⟩) Q2).trans (qz j)
  go_wp2_with fail
  have zd : W.drew.heap.size = W.heap.size := rfl
  have z1 := f1.size
  refine bodyPost_ret (v := .agg #[.int .i64 p.id, .int .i64 p.lsn, .int .i64 p.level, .int .i64 p.next, .slice A2 p.ents.length n2]) ?_ rfl ⟨A2, n2, rfl, ?_, ?_⟩
  · simp [results, Tryd.results14, go_sem, x0, x1, x2, x3, x4]
  · rw [zd, hz] at s1
    refine s1.move (T := fun b => b ≠ w.heap.size + 1) ?_ (fun b hb _ => by unfold From at hb; omega) (fun m hm => by have := (own_lt s1 m hm).1; omega)
    repeat (first | (with_reducible exact Fr.refl _ _) | with_reducible refine Fr.setCell ?_ (fun m hm => by exact hm) _)
  · have FF := HF0.out.trans F2
    repeat (first | (with_reducible exact FF) | with_reducible refine Fr.setNew ?_ (by dsimp only; omega) _)
end Go.Proofs.YtppjpfgjophgkaaDoor
