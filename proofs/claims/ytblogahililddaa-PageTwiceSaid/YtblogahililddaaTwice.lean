/- The walk of the law that what was applied once is not applied again. -/
import Derived.Test.YtblogahililddaaAll
import Derived.Test.YtblogahililddaaRef
import Derived.Test.YtblogahililddaaLast
import Derived.Deep.Cut
namespace Go.Proofs.Ytblogahililddaa
open Go.RowKit

theorem papply_id (p : Page) (r : Redo) : (papply p r).id = p.id ∧ p.lsn ≤ (papply p r).lsn ∧ (r.page = p.id → r.lsn ≤ (papply p r).lsn) := by
  by_cases h : r.page ≠ p.id ∨ r.lsn ≤ p.lsn
  · rw [papply_skip h]
    exact ⟨rfl, Int.le_refl _, fun hp => h.resolve_left fun hn => hn hp⟩
  · obtain ⟨h1, h2⟩ := papply_goes h
    exact ⟨h2, by rw [h1]; omega, fun _ => by rw [h1]; exact Int.le_refl _⟩
theorem pall_id : ∀ (l : List Redo) (p : Page), (pall p l).id = p.id ∧ p.lsn ≤ (pall p l).lsn ∧ ∀ r ∈ l, r.page = p.id → r.lsn ≤ (pall p l).lsn
  | [], p => ⟨rfl, Int.le_refl _, fun r hr => by simp at hr⟩
  | x :: l, p => by
    obtain ⟨h1, h2, h3⟩ := papply_id p x
    obtain ⟨k1, k2, k3⟩ := pall_id l (papply p x)
    refine ⟨k1.trans h1, Int.le_trans h2 k2, fun r hr hp => ?_⟩
    rcases List.mem_cons.1 hr with rfl | hr
    · exact Int.le_trans (h3 hp) k2
    · exact k3 r hr (hp.trans h1.symm)
theorem pall_same : ∀ (l : List Redo) (p : Page), (∀ r ∈ l, r.page ≠ p.id ∨ r.lsn ≤ p.lsn) → pall p l = p
  | [], _, _ => rfl
  | x :: l, p, h => by
    show pall (papply p x) l = p
    rw [papply_skip (h x List.mem_cons_self)]
    exact pall_same l p fun r hr => h r (List.mem_cons_of_mem _ hr)
theorem pall_twice {p : Page} {l a b : List Redo} (ha : a.Perm l) (hb : b.Perm l) : pall (pall p a) b = pall p a := by
  obtain ⟨h1, _, h3⟩ := pall_id a p
  refine pall_same b _ fun r hr => ?_
  by_cases hp : r.page = p.id
  · exact .inr (h3 r (ha.mem_iff.2 (hb.mem_iff.1 hr)) hp)
  · exact .inl (by rw [h1]; exact hp)

def newPage (id : Int) : Page := ⟨id, 0, 0, -1, []⟩
theorem newPage_small (id : Int) : SmallP (newPage id) := ⟨by simp [newPage], fun e he => by simp [newPage] at he⟩

set_option hygiene false in
set_option maxRecDepth 100000 in
set_option maxHeartbeats 2000000 in
theorem twice_walk {l : List Redo} {v : Value} (id0 : Int) (w : World) (h : Sl kRedo All w v l) :
    Calls Try.prog 9 #[.int .i64 id0, v] w fun e w' => e = .returned (.bool true) ∧ Fr All w w' := by
  obtain ⟨A, n, c, rfl, en, hnc, hcm⟩ := h.open_
  have En := Lib.hid en
  clear en
  go_enter Try.func9, Try.ntmps9
  go_wp2_with fail
  refine (first_call _).mono ?_
  rintro e w1 ⟨rfl, f1⟩
  go_wp2_with fail
  refine (number (n := id0) (k := 256) _ (by decide) (by decide)).mono ?_
  rintro e wn ⟨id, hid, rfl, hwn⟩
  obtain rfl := hwn.symm
  go_wp2_with fail
  refine (right_call 20 (by decide) (h.all f1)).mono ?_
  rintro e w2 ⟨b, rfl, hb, f2⟩
  have Hb := Lib.hid hb
  have F2 := f1.trans f2
  clear hb
  cases b with
  | false =>
    go_wp2_with fail
    go_ret
    exact ⟨rfl, F2⟩
  | true =>
    have hl : l.length ≤ 20 := (Hb.out rfl).1
    have hr : RightL l := (Hb.out rfl).2
    have Hl := Lib.hid hl
    have Hr := Lib.hid hr
    clear hl hr f1 f2 Hb
    go_wp2_with fail
    refine (page_new (id : Int) _).mono ?_
    rintro e w3 ⟨A3, c3, rfl, o3, f3⟩
    have F3 := F2.trans f3
    have s3 := o3.sl
    clear o3 f3
    go_wp2_with fail
    refine (page_all (p := newPage id) s3 (newPage_small _) (h.all F3) Hl.out Hr.out).mono ?_
    rintro e w4 ⟨l4, p, A4, c4, P4, hp4, rfl, s4, f4⟩
    have F4 := F3.trans f4
    have Hp4 := Lib.hid hp4
    have HP4 := Lib.hid P4
    have hps : SmallP p := by rw [hp4]; exact pall_small (newPage_small _) fun r h => Hr.out r (P4.mem_iff.1 h)
    have B4 := heap_alloc_new w4 (.cells #[.int .i64 p.id, .int .i64 p.lsn, .int .i64 p.level, .int .i64 p.next, .slice A4 p.ents.length c4] 26)
    have F5 := F4.alloc (.cells #[.int .i64 p.id, .int .i64 p.lsn, .int .i64 p.level, .int .i64 p.next, .slice A4 p.ents.length c4] 26)
    have s5 := s4.all ((Fr.refl All w4).alloc (.cells #[.int .i64 p.id, .int .i64 p.lsn, .int .i64 p.level, .int .i64 p.next, .slice A4 p.ents.length c4] 26))
    clear P4 hp4 s4 F4 f4 s3 F3 F2
    go_upto_region 8 with (fail)
    refine wp_name ?_
    intro W hW
    rw [← hW] at B4 F5 s5
    clear hW
    obtain ⟨p0, p1, p2, p3, p4, pz⟩ := blk5 B4
    go_wp2_with fail
    refine (page_all (p := p) s5 hps (h.all F5) Hl.out Hr.out).mono ?_
    rintro e w6 ⟨l6, q, A6, c6, P6, hq, rfl, s6, f6⟩
    obtain rfl : q = p := by
      rw [hq, Hp4.out]
      exact pall_twice HP4.out P6
    have hzq := blk_lt B4
    have B6 := (f6.block _ hzq trivial).trans B4
    have C6 := heap_alloc_new w6 (.cells #[.int .i64 q.id, .int .i64 q.lsn, .int .i64 q.level, .int .i64 q.next, .slice A6 q.ents.length c6] 26)
    have G6 := (Fr.refl All w6).alloc (.cells #[.int .i64 q.id, .int .i64 q.lsn, .int .i64 q.level, .int .i64 q.next, .slice A6 q.ents.length c6] 26)
    have F6 := F5.trans f6
    have t5 := s5.all f6
    clear p0 p1 p2 p3 p4 pz s5 B4 hq P6 f6 F5 Hp4 HP4
    go_upto_region 9 with (fail)
    refine wp_name ?_
    intro W2 hW2
    rw [← hW2] at C6 G6
    clear hW2
    have u5 := t5.all G6
    have u6 := s6.all G6
    have F7 := F6.trans G6
    have B7 := (G6.block _ (blk_lt B6) trivial).trans B6
    clear t5 s6 F6 G6 B6
    go_wp2_with fail
    refine (page_new (id : Int) _).mono ?_
    rintro e w7 ⟨A7, c7, rfl, o7, f7⟩
    have hc7 : c7 ≤ maxLen := by
      obtain ⟨_, _, _, he, _, _, h3⟩ := o7.sl.open_
      rw [(Value.slice.inj he).2.2]
      exact h3
    have B8 := (f7.block _ (blk_lt B7) trivial).trans B7
    have C8 := (f7.block _ (blk_lt C6) trivial).trans C6
    have D8 := heap_alloc_new w7 (.cells #[.int .i64 id, .int .i64 0, .int .i64 0, .int .i64 (-1), .slice A7 0 c7] 26)
    have G8 := (Fr.refl All w7).alloc (.cells #[.int .i64 id, .int .i64 0, .int .i64 0, .int .i64 (-1), .slice A7 0 c7] 26)
    have F8 := F7.trans f7
    have u5 := u5.all f7
    have u6 := u6.all f7
    clear o7 f7 F7 B7 C6
    go_upto_region 10 with (fail)
    refine wp_name ?_
    intro W3 hW3
    rw [← hW3] at D8 G8
    clear hW3
    have hb7' : w4.heap.size < w7.heap.size := blk_lt B8
    have hc8' : w6.heap.size < w7.heap.size := blk_lt C8
    have y5 : Sl kEnt (fun b => b ≠ w7.heap.size) W3 (.slice A4 q.ents.length c4) q.ents := (u5.mono (T := fun b => b ≠ w7.heap.size) fun b _ hb => by omega).all G8
    have y6 : Sl kEnt (fun b => b ≠ w7.heap.size) W3 (.slice A6 q.ents.length c6) q.ents := (u6.mono (T := fun b => b ≠ w7.heap.size) fun b _ hb => by omega).all G8
    have F9 := F8.trans G8
    have B9 := (G8.block _ (blk_lt B8) trivial).trans B8
    have C9 := (G8.block _ (blk_lt C8) trivial).trans C8
    have hb7 : w4.heap.size < w7.heap.size := blk_lt B8
    have hc8 : w6.heap.size < w7.heap.size := blk_lt C8
    have hd9 : w7.heap.size < W3.heap.size := blk_lt D8
    obtain ⟨d0, d1, d2, d3, d4, dz⟩ := blk5 D8
    have h9 := h.all F9
    have Hw7 : Hid (w.heap.size ≤ w7.heap.size) := F8.size
    clear u5 u6 F8 G8 B8 C8
    go_wp2_with fail
    go_loopw [9] (fun i wr => ∃ (j : Nat) (A' : Option Addr) (c' : Nat), j ≤ n ∧ i = .int .i64 j ∧ c' ≤ maxLen ∧ wr.cell? ⟨w7.heap.size, 0, none⟩ = some (.int .i64 id) ∧ wr.cell? ⟨w7.heap.size, 1, none⟩ = some (.int .i64 0) ∧ wr.cell? ⟨w7.heap.size, 2, none⟩ = some (.int .i64 0) ∧ wr.cell? ⟨w7.heap.size, 3, none⟩ = some (.int .i64 (-1)) ∧ wr.cell? ⟨w7.heap.size, 4, none⟩ = some (.slice A' 0 c') ∧
      (∀ j, wr.frozen? ⟨w7.heap.size, j, none⟩ = false) ∧ Fr (fun b => b ≠ w7.heap.size) W3 wr ∧ Fr All w wr) (fun i _ => n - (intOf i).toNat)
    case atStart => exact ⟨0, A7, c7, Nat.zero_le _, rfl, hc7, d0, d1, d2, d3, d4, dz, Fr.refl _ _, F9⟩
    case round =>
      clear d0 d1 d2 d3 d4 dz
      obtain ⟨j, A', c', hj, rfl, hc', a0, a1, a2, a3, a4, az, HF, HG⟩ := hrel
      by_cases hlt : j < n
      · obtain ⟨x, hx, hmem⟩ := get_of (l := l) (k := j) (by rw [En.out]; exact hlt)
        obtain ⟨b, o, A0, n0, c0, A3, n3, c3, rfl, r0, r1, r2, r3, r4, r5, r6, r7, r8, r9, t0, t1⟩ := redo_at (h.all HG) hx
        have hxs := Hr.out.short hmem
        have b0 : (0 : Int) ≤ (j : Int) := by omega
        have b1 : (j : Int) < (n : Int) := by omega
        have hn20 : n ≤ 20 := by have := Hl.out; rw [En.out] at this; exact this
        clear hx hmem
        by_cases hp : x.page = id
        · have hd : (x.page != (id : Int)) = false := by rw [bne_eq_false_iff_eq]; exact hp
          clear hp
          go_wp2_with fail
          go_roundw
          case rel => exact ⟨j + 1, A', c', by omega, by go_num, hc', a0, a1, a2, a3, a4, az, HF, HG⟩
          case measure => simp [intOf]; omega
        · have hd : (x.page != (id : Int)) = true := by rw [bne_iff_ne]; exact hp
          have hd2 : papply (newPage id) x = newPage id := papply_skip (.inl hp)
          have Hd2 := Lib.hid hd2
          have hw7 : w7.heap.size < wr.heap.size := Nat.lt_of_lt_of_le hd9 HF.size
          clear hp hd2
          go_upto_region 14 with (fail)
          refine wp_region_last (S := fun w' => w'.cell? ⟨w7.heap.size, 0, none⟩ = some (.int .i64 id) ∧ w'.cell? ⟨w7.heap.size, 1, none⟩ = some (.int .i64 0) ∧ w'.cell? ⟨w7.heap.size, 2, none⟩ = some (.int .i64 0) ∧ w'.cell? ⟨w7.heap.size, 3, none⟩ = some (.int .i64 (-1)) ∧ w'.cell? ⟨w7.heap.size, 4, none⟩ = some (.slice A' 0 c') ∧
            w'.cell? ⟨b, o + j * 10, none⟩ = some (.int .i64 x.lsn) ∧ w'.cell? ⟨b, o + j * 10 + 1, none⟩ = some (.int .i64 x.back) ∧ w'.cell? ⟨b, o + j * 10 + 2, none⟩ = some (.int .i64 x.epoch) ∧ w'.cell? ⟨b, o + j * 10 + 3, none⟩ = some (.int .i64 x.group) ∧ w'.cell? ⟨b, o + j * 10 + 4, none⟩ = some (.int .i64 x.page) ∧ w'.cell? ⟨b, o + j * 10 + 5, none⟩ = some (.int .i64 x.kind) ∧ w'.cell? ⟨b, o + j * 10 + 6, none⟩ = some (.int .i64 x.slot) ∧ w'.cell? ⟨b, o + j * 10 + 7, none⟩ = some (.slice A0 n0 c0) ∧ w'.cell? ⟨b, o + j * 10 + 8, none⟩ = some (.slice A3 n3 c3) ∧ w'.cell? ⟨b, o + j * 10 + 9, none⟩ = some (.bool x.last))
            6 (by kernel_rfl) rfl (by kernel_rfl) ⟨a0, a1, a2, a3, a4, r0, r1, r2, r3, r4, r5, r6, r7, r8, r9⟩ (fun hHeld => ?_)
          simp only [List.take_succ_cons, List.take_zero]
          refine wpAnyH_take (i := 0) (v := ?_) rfl (by kernel_rfl) (by kernel_rfl) (by kernel_rfl) (fun _ _ _ h => h) (Or.inl ⟨by rfl, ?_⟩) (by assumption) ?_
          rotate_left
          · (intro w hSw; (try dsimp only at hSw); go_simp; try with_reducible rfl)
          try simp only [Act.put]
          try simp only [List.setIfInBounds_toArray]
          try simp only [List.set_cons_succ]
          try simp only [List.set_cons_zero]
          refine wpAnyH_take (i := 1) (v := ?_) rfl (by kernel_rfl) (by kernel_rfl) (by kernel_rfl) (fun _ _ _ h => h) (Or.inl ⟨by rfl, ?_⟩) (by assumption) ?_
          rotate_left
          · (intro w hSw; (try dsimp only at hSw); go_simp; try with_reducible rfl)
          try simp only [Act.put]
          try simp only [List.setIfInBounds_toArray]
          try simp only [List.set_cons_succ]
          try simp only [List.set_cons_zero]
          refine wpAnyH_take (i := 2) (v := ?_) rfl (by kernel_rfl) (by kernel_rfl) (by kernel_rfl) (fun _ _ _ h => h) (Or.inl ⟨by rfl, ?_⟩) (by assumption) ?_
          rotate_left
          · (intro w hSw; (try dsimp only at hSw); go_simp; try with_reducible rfl)
          try simp only [Act.put]
          try simp only [List.setIfInBounds_toArray]
          try simp only [List.set_cons_succ]
          try simp only [List.set_cons_zero]
          refine wpAnyH_take (i := 3) (v := ?_) rfl (by kernel_rfl) (by kernel_rfl) (by kernel_rfl) (fun _ _ _ h => h) (Or.inl ⟨by rfl, ?_⟩) (by assumption) ?_
          rotate_left
          · (intro w hSw; (try dsimp only at hSw); go_simp; try with_reducible rfl)
          try simp only [Act.put]
          try simp only [List.setIfInBounds_toArray]
          try simp only [List.set_cons_succ]
          try simp only [List.set_cons_zero]
          refine wpAnyH_take (i := 4) (v := ?_) rfl (by kernel_rfl) (by kernel_rfl) (by kernel_rfl) (fun _ _ _ h => h) (Or.inl ⟨by rfl, ?_⟩) (by assumption) ?_
          rotate_left
          · (intro w hSw; (try dsimp only at hSw); go_simp; try with_reducible rfl)
          try simp only [Act.put]
          try simp only [List.setIfInBounds_toArray]
          try simp only [List.set_cons_succ]
          try simp only [List.set_cons_zero]
          refine wpAnyH_ready (rs := [5]) (by kernel_rfl) (by simp) (AllReadyH.cons rfl (fun K hK => ?_) AllReadyH.nil)
          go_simp
          refine (page_apply (p := newPage id) (r := x) (Sl.empty_ kEnt All wr.drew A' c' hc') (newPage_small _).ok (t0.all (Fr.refl All wr).drew) (t1.all (Fr.refl All wr).drew) (by omega) (by omega) hxs.2.2).mono ?_
          rw [Hd2.out]
          rintro e w8 ⟨A8, c8, rfl, o8, f8⟩
          have hc8' : c8 ≤ maxLen := by
            obtain ⟨_, _, _, he, _, _, h3⟩ := o8.sl.open_
            rw [(Value.slice.inj he).2.2]
            exact h3
          dsimp only [newPage, List.length_nil] at o8 ⊢
          go_simp
          have F8 : Fr All wr w8 := (Fr.refl All wr).drew.then_all f8
          refine hK.out _ _ ⟨F8.cell trivial a0, F8.cell trivial a1, F8.cell trivial a2, F8.cell trivial a3, F8.cell trivial a4, F8.cell trivial r0, F8.cell trivial r1, F8.cell trivial r2, F8.cell trivial r3, F8.cell trivial r4, F8.cell trivial r5, F8.cell trivial r6, F8.cell trivial r7, F8.cell trivial r8, F8.cell trivial r9⟩ (fun hHeld => ?_)
          clear hK K
          try simp only [Act.put]
          try simp only [List.setIfInBounds_toArray]
          try simp only [List.set_cons_succ]
          try simp only [List.set_cons_zero]
          have d0 := F8.cell trivial a0
          have d1 := F8.cell trivial a1
          have d2 := F8.cell trivial a2
          have d3 := F8.cell trivial a3
          have d4 := F8.cell trivial a4
          have dz : ∀ j, w8.frozen? ⟨w7.heap.size, j, none⟩ = false := fun j => (World.frozen?_of_block (a := ⟨w7.heap.size, j, none⟩) (F8.block _ hw7 trivial)).trans (az j)
          have G8 := HF.trans (F8.mono fun _ _ => trivial)
          have K8 := HG.trans F8
          clear hHeld r0 r1 r2 r3 r4 r5 r6 r7 r8 r9 a0 a1 a2 a3 a4 az F8 f8 o8 HF HG t0 t1
          have hw70 := Hw7.out
          refine wpAnyH_done (by kernel_rfl) ?_ _
          show wpList _ _ _ _ _ _
          go_wp2_with fail
          go_roundw
          case rel =>
            refine ⟨j + 1, A8, c8, by omega, by go_num, hc8', ?_, ?_, ?_, ?_, ?_, ?_, ?_, ?_⟩
            · go_simp
            · go_simp
            · go_simp
            · go_simp
            · go_simp
            · intro k; go_simp
            · repeat (first | (with_reducible exact G8) | with_reducible refine Fr.setCell ?_ (fun m hm => by exact hm) _)
            · repeat (first | (with_reducible exact K8) | with_reducible refine Fr.setNew ?_ (by dsimp only; omega) _)
          case measure => simp [intOf]; omega
      · obtain rfl : j = n := by omega
        have B10 := (HF.block _ (blk_lt B9) (show w4.heap.size ≠ w7.heap.size by omega)).trans B9
        have C10 := (HF.block _ (blk_lt C9) (show w6.heap.size ≠ w7.heap.size by omega)).trans C9
        obtain ⟨p0, p1, p2, p3, p4, _⟩ := blk5 B10
        obtain ⟨q0, q1, q2, q3, q4, _⟩ := blk5 C10
        have Z5 : Sl kEnt (fun b => b ≠ w7.heap.size) wr (.slice A4 q.ents.length c4) q.ents := y5.move HF
        have Z6 : Sl kEnt (fun b => b ≠ w7.heap.size) wr (.slice A6 q.ents.length c6) q.ents := y6.move HF
        have hq1 : q.ents.length ≤ 100000000000000 := by have := hps.1; omega
        have hq2 : ∀ x ∈ q.ents, x.key.length ≤ 100000000000000 ∧ x.val.length ≤ 100000000000000 := fun x hx => by have := hps.2 x hx; omega
        clear B9 C9 B10 C10 y5 y6 h9 h az
        go_wp2_with fail
        go_region_held3 (fun w' => w'.cell? ⟨w4.heap.size, 0, none⟩ = some (.int .i64 q.id) ∧ w'.cell? ⟨w4.heap.size, 1, none⟩ = some (.int .i64 q.lsn) ∧ w'.cell? ⟨w4.heap.size, 2, none⟩ = some (.int .i64 q.level) ∧ w'.cell? ⟨w4.heap.size, 3, none⟩ = some (.int .i64 q.next) ∧ w'.cell? ⟨w4.heap.size, 4, none⟩ = some (.slice A4 q.ents.length c4) ∧ w'.cell? ⟨w6.heap.size, 0, none⟩ = some (.int .i64 q.id) ∧ w'.cell? ⟨w6.heap.size, 1, none⟩ = some (.int .i64 q.lsn) ∧ w'.cell? ⟨w6.heap.size, 2, none⟩ = some (.int .i64 q.level) ∧ w'.cell? ⟨w6.heap.size, 3, none⟩ = some (.int .i64 q.next) ∧ w'.cell? ⟨w6.heap.size, 4, none⟩ = some (.slice A6 q.ents.length c6) ∧ w'.cell? ⟨w7.heap.size, 0, none⟩ = some (.int .i64 id) ∧ w'.cell? ⟨w7.heap.size, 1, none⟩ = some (.int .i64 0) ∧ w'.cell? ⟨w7.heap.size, 2, none⟩ = some (.int .i64 0) ∧ w'.cell? ⟨w7.heap.size, 3, none⟩ = some (.int .i64 (-1)) ∧ w'.cell? ⟨w7.heap.size, 4, none⟩ = some (.slice A' 0 c'))
          (first | go_keep | (go_split_ands; refine ⟨?_, ?_, ?_, ?_, ?_, ?_, ?_, ?_, ?_, ?_, ?_, ?_, ?_, ?_, ?_⟩ <;> exact Fr.cell (by assumption) trivial (by assumption)))
          (first
            | (go_at_call_of 18 (Value.agg #[.int .i64 q.id, .int .i64 q.lsn, .int .i64 q.level, .int .i64 q.next, .slice A4 q.ents.length c4]); refine (same_page (p := q) (Z5.all (Fr.refl All _).drew) (Z6.all (Fr.refl All _).drew) hq1 hq2).mono ?_; rintro e w8 ⟨rfl, f8⟩)
            | (go_at_call 11; refine (page_new (id : Int) _).mono ?_; rintro e w9 ⟨A9, c9, rfl, o9, f9⟩)
            | (go_at_call 18; refine (same_page (p := newPage id) (Sl.empty_ kEnt All _ A' c' hc') o9.sl (by simp [newPage]) (fun x hx => by simp [newPage] at hx)).mono ?_; rintro e w10 ⟨rfl, f10⟩))
        go_wp2_with fail
        go_ret
        exact ⟨rfl, ((HG.drew.trans f8).trans f9).trans f10⟩
end Go.Proofs.Ytblogahililddaa
