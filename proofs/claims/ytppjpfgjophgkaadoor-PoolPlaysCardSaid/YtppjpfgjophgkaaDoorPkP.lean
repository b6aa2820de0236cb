/- page.Valid of a right page; the pool's Put. -/
import Derived.Test.YtppjpfgjophgkaaDoorPkA
import Derived.Test.YtppjpfgjophgkaaDoorRef
namespace Go.Proofs.YtppjpfgjophgkaaDoor
open Go.RowKit Go.Maps

structure PageOk (p : Page) : Prop where
  i0 : 0 ≤ p.id
  i1 : p.id < 256
  l0 : 0 ≤ p.lsn
  l1 : p.lsn ≤ 1099511627776
  v0 : 0 ≤ p.level
  v1 : p.level ≤ 16
  x0 : -1 ≤ p.next
  x1 : p.next < 256
  en : p.ents.length ≤ 8
  es : ∀ e ∈ p.ents, e.key.length ≤ 32 ∧ e.val.length ≤ 64
theorem PageOk.ents {p : Page} (h : PageOk p) : EntsOk p.ents := ⟨by have := h.en; omega, fun e he => ⟨by have := (h.es e he).1; omega, by have := (h.es e he).2; omega⟩⟩

set_option maxRecDepth 100000 in
set_option maxHeartbeats 2000000 in
theorem page_valid_ok {w : World} {p : Page} {A : Option Addr} {n c : Nat} {S : Nat → Prop} (h : PageOk p) (hs : Sl kEnt S w (.slice A n c) p.ents) :
    Calls Tryd.prog 32 #[.agg #[.int .i64 p.id, .int .i64 p.lsn, .int .i64 p.level, .int .i64 p.next, .slice A n c]] w fun e w' => e = .returned .nilIface ∧ Fr All w w' := by
  have en := hs.len_eq
  have En := Lib.hid en
  have hn8 : n ≤ 8 := by have := h.en; omega
  have B0 := heap_alloc_new w (.cells #[.int .i64 p.id, .int .i64 p.lsn, .int .i64 p.level, .int .i64 p.next, .slice A n c] 30)
  have F0 := (Fr.refl All w).alloc (.cells #[.int .i64 p.id, .int .i64 p.lsn, .int .i64 p.level, .int .i64 p.next, .slice A n c] 30)
  obtain ⟨p0, p1, p2, p3, p4, pz⟩ := blk5 B0
  obtain ⟨W, hW⟩ : ∃ W, w.alloc (.cells #[.int .i64 p.id, .int .i64 p.lsn, .int .i64 p.level, .int .i64 p.next, .slice A n c] 30) = W := ⟨_, rfl⟩
  rw [hW] at F0 p0 p1 p2 p3 p4 pz
  have HS := Lib.hid (hs.all F0)
  obtain ⟨i0, i1, l0, l1, v0, v1, x0, x1, _, es⟩ := h
  have d1 : decide (p.id < 0) = false := decide_eq_false (by omega)
  have d2 : decide (p.id ≥ 256) = false := decide_eq_false (by omega)
  have d3 : decide (p.lsn < 0) = false := decide_eq_false (by omega)
  have d4 : decide (p.lsn > 1099511627776) = false := decide_eq_false (by omega)
  have d5 : decide (p.level < 0) = false := decide_eq_false (by omega)
  have d6 : decide (p.level > 16) = false := decide_eq_false (by omega)
  have d7 : decide (p.next < -1) = false := decide_eq_false (by omega)
  have d8 : decide (p.next ≥ 256) = false := decide_eq_false (by omega)
  have d9 : decide ((n : Int) > 8) = false := decide_eq_false (by omega)
  have ES := Lib.hid es
  clear i0 i1 l0 l1 v0 v1 x0 x1 es en hs B0
  go_enter Tryd.func32, Tryd.ntmps32
  go_wp2_with fail
  go_loopw [52] (fun i wr => ∃ j : Nat, j ≤ n ∧ i = .int .i64 j ∧ Fr All W wr) (fun i _ => n - (intOf i).toNat)
  case atStart => exact ⟨0, Nat.zero_le _, rfl, Fr.refl _ _⟩
  case round =>
    obtain ⟨j, hj, rfl, HF⟩ := hrel
    by_cases hlt : j < n
    · obtain ⟨x, hx, hxm⟩ := get_of (l := p.ents) (k := j) (by rw [← En.out]; exact hlt)
      obtain ⟨b, o, A0, n0, c0, A1, n1, c1, rfl, g0, g1, t0, t1⟩ := ent_at (HS.out.all HF) hx
      have b0 : (0 : Int) ≤ (j : Int) := by omega
      have b1 : (j : Int) < (n : Int) := by omega
      have hk0 : n0 ≤ 32 := by rw [t0.len_eq]; exact (ES.out x hxm).1
      have hk1 : n1 ≤ 64 := by rw [t1.len_eq]; exact (ES.out x hxm).2
      have y0 : decide ((n0 : Int) > 32) = false := decide_eq_false (by omega)
      have y1 : decide ((n1 : Int) > 64) = false := decide_eq_false (by omega)
      have FA := HF.alloc (.cells #[.slice A0 n0 c0, .slice A1 n1 c1] 65)
      clear hx hxm t0 t1 hk0 hk1
      go_wp2_with fail
      go_roundw
      case rel => exact ⟨j + 1, by omega, by go_num, FA⟩
      case measure => simp [intOf]; omega
    · obtain rfl : j = n := by omega
      go_wp2_with fail
      go_ret
      exact ⟨rfl, F0.trans HF⟩

/-- Behind a Put. -/
def PSt.puts (s : PSt) (p : Page) : PSt := match s.have_ p.id with | some y => if y.lsn ≤ p.lsn then (s.unwant p.id).has p.id p else s.unwant p.id | none => (s.unwant p.id).has p.id p

set_option hygiene false in
set_option maxRecDepth 100000 in
set_option maxHeartbeats 4000000 in
theorem pool_put {G : Nat → Prop} {w : World} {B l t : Nat} {s : PSt} {p : Page} {A : Option Addr} {n c : Nat} {S : Nat → Prop} (h : Pk G w B l t s) (hok : PageOk p) (hs : Sl kEnt S w (.slice A n c) p.ents) (hS : ∀ x, S x → x < w.heap.size → x ≠ t) (hnn : s.nh < 1000000) :
    Calls Tryd.prog 12 #[.pointer (some ⟨B, 0, none⟩), .agg #[.int .i64 p.id, .int .i64 p.lsn, .int .i64 p.level, .int .i64 p.next, .slice A n c]] w
      fun e w' => e = .returned .nilIface ∧ Pk G w' B l t (s.puts p) ∧ Fr (Off B l t) w w' := by
  have ok := hok.ents
  have hi : In64 p.id := in64_of (by have := hok.i0; omega) (by have := hok.i1; omega)
  have B0 := heap_alloc_new w (.cells #[.int .i64 p.id, .int .i64 p.lsn, .int .i64 p.level, .int .i64 p.next, .slice A n c] 30)
  have F0 := (Fr.refl All w).alloc (.cells #[.int .i64 p.id, .int .i64 p.lsn, .int .i64 p.level, .int .i64 p.next, .slice A n c] 30)
  obtain ⟨p0, p1, p2, p3, p4, pz⟩ := blk5 B0
  have H := Lib.hid h
  have HS := Lib.hid hs
  have HB := Lib.hid B0
  go_enter Tryd.func12, Tryd.ntmps12
  go_wp2_with fail
  refine (page_valid_ok hok (hs.all F0)).mono ?_
  rintro e w2 ⟨rfl, f2⟩
  have F2 := F0.trans f2
  have B2 := (f2.block _ (blk_lt B0) trivial).trans B0
  have H2 := Lib.hid (h.all F2)
  clear p0 p1 p2 p3 p4 pz B0 F0 f2 h hs hok
  obtain ⟨p0, p1, p2, p3, p4, pz⟩ := blk5 B2
  have q1 := H2.out.c1
  obtain ⟨w5, hr5, m5, f5⟩ := (H2.out.all (Fr.refl All w2).drew).tv.del Tryd.underlying3 Tryd.underlying61 hi (fun x hx => hx.2.2) 0
  have D5 : Pk G w5 B l t (s.unwant p.id) := (H2.out.all (Fr.refl All w2).drew).stays f5 H2.out.n2 ((H2.out.all (Fr.refl All w2).drew).hv.move f5 H2.out.n3 fun x hx _ => hx.1.2.2) m5
  have H5 := Lib.hid D5
  have tl := H.out.tv.lt
  have BR := (f5.block w.heap.size (blk_lt B2) (show w.heap.size ≠ t by omega)).trans B2
  have FT : Fr (fun x => x ≠ t) w w5 := (F2.drew.mono fun _ _ => trivial).trans f5
  have HP5 : Hid (Sl kEnt All w5 (.slice A n c) p.ents) := Lib.hid ((HS.out.move' FT hS).mono fun _ _ _ => trivial)
  have FTh := Lib.hid FT
  clear m5 D5 f5 F2
  go_upto_region 4 with (fail)
  go_region
  clear p0 p1 p2 p3 p4 pz q1 hr5 B2 FT
  obtain ⟨p0, p1, p2, p3, p4, pz⟩ := blk5 BR
  have q0 := H5.out.c0
  have hlR := blk_lt BR
  have hlB := H5.out.lt
  cases hm : s.have_ p.id with
  | none =>
    have hpu : s.puts p = (s.unwant p.id).has p.id p := by simp [PSt.puts, hm]
    have hr1 := (H5.out.all (Fr.refl All w5).drew).hv.look_none Tryd.underlying3 Tryd.underlying60 zeroPage hi hm
    have hr2 := (H5.out.all ((Fr.refl All w5).alloc (.cells #[.int .i64 0, .int .i64 0, .int .i64 0, .int .i64 0, .slice none 0 0] 30)).drew).hv.look_none Tryd.underlying3 Tryd.underlying60 zeroPage hi hm
    have HPU := Lib.hid hpu
    clear hm hpu
    go_upto_region 5 with (fail)
    go_region
    all_goals (
      generalize hW1 : (w5.alloc (.cells #[.int .i64 0, .int .i64 0, .int .i64 0, .int .i64 0, .slice none 0 0] 30)).drew = W1
      have F1 : Fr All w5 W1 := by
        rw [← hW1]
        exact ((Fr.refl All w5).alloc _).drew
      have HH := Lib.hid (H5.out.all F1)
      have HP := Lib.hid (HP5.out.all F1)
      have BB := (F1.block _ (blk_lt BR) trivial).trans BR
      clear p0 p1 p2 p3 p4 pz q0 hr1 hr2 hlR hlB hW1
      obtain ⟨p0, p1, p2, p3, p4, pz⟩ := blk5 BB
      have q0 := HH.out.c0
      clear BB
      go_upto_region 7 with (fail)
      refine wp_region_last (S := fun w' => w'.cell? ⟨B, 0, none⟩ = some (.map (some l)) ∧ w'.cell? ⟨w.heap.size, 0, none⟩ = some (.int .i64 p.id) ∧ w'.cell? ⟨w.heap.size, 1, none⟩ = some (.int .i64 p.lsn) ∧ w'.cell? ⟨w.heap.size, 2, none⟩ = some (.int .i64 p.level) ∧ w'.cell? ⟨w.heap.size, 3, none⟩ = some (.int .i64 p.next) ∧ w'.cell? ⟨w.heap.size, 4, none⟩ = some (.slice A n c)) 8 (by kernel_rfl) rfl (by kernel_rfl) ⟨q0, p0, p1, p2, p3, p4⟩ (fun hHeld => ?_)
      simp only [List.take_succ_cons, List.take_zero]
      refine wpAnyH_take (i := 0) (v := ?_) rfl (by kernel_rfl) (by kernel_rfl) (by kernel_rfl) (fun _ _ _ h => h) (Or.inl ⟨by rfl, ?_⟩) (by assumption) ?_
      rotate_left
      · (intro w hSw; (try dsimp only at hSw); go_simp; try with_reducible rfl)
      try simp only [Act.put]
      try simp only [List.setIfInBounds_toArray]
      try simp only [List.set_cons_succ]
      try simp only [List.set_cons_zero]
      refine wpAnyH_take (i := 1) (v := ?_) rfl (by kernel_rfl) (by kernel_rfl) (by kernel_rfl) (fun _ _ _ h => h) (Or.inl ⟨by rfl, ?_⟩) (by assumption) ?_
      rotate_left
      · (intro w hSw; (try dsimp only at hSw); go_simp; try with_reducible rfl)
      try simp only [Act.put]
      try simp only [List.setIfInBounds_toArray]
      try simp only [List.set_cons_succ]
      try simp only [List.set_cons_zero]
      refine wpAnyH_take (i := 2) (v := ?_) rfl (by kernel_rfl) (by kernel_rfl) (by kernel_rfl) (fun _ _ _ h => h) (Or.inl ⟨by rfl, ?_⟩) (by assumption) ?_
      rotate_left
      · (intro w hSw; (try dsimp only at hSw); go_simp; try with_reducible rfl)
      try simp only [Act.put]
      try simp only [List.setIfInBounds_toArray]
      try simp only [List.set_cons_succ]
      try simp only [List.set_cons_zero]
      refine wpAnyH_take (i := 3) (v := ?_) rfl (by kernel_rfl) (by kernel_rfl) (by kernel_rfl) (fun _ _ _ h => h) (Or.inl ⟨by rfl, ?_⟩) (by assumption) ?_
      rotate_left
      · (intro w hSw; (try dsimp only at hSw); go_simp; try with_reducible rfl)
      try simp only [Act.put]
      try simp only [List.setIfInBounds_toArray]
      try simp only [List.set_cons_succ]
      try simp only [List.set_cons_zero]
      refine wpAnyH_take (i := 4) (v := ?_) rfl (by kernel_rfl) (by kernel_rfl) (by kernel_rfl) (fun _ _ _ h => h) (Or.inl ⟨by rfl, ?_⟩) (by assumption) ?_
      rotate_left
      · (intro w hSw; (try dsimp only at hSw); go_simp; try with_reducible rfl)
      try simp only [Act.put]
      try simp only [List.setIfInBounds_toArray]
      try simp only [List.set_cons_succ]
      try simp only [List.set_cons_zero]
      refine wpAnyH_take (i := 5) (v := ?_) rfl (by kernel_rfl) (by kernel_rfl) (by kernel_rfl) (fun _ _ _ h => h) (Or.inl ⟨by rfl, ?_⟩) (by assumption) ?_
      rotate_left
      · (intro w hSw; (try dsimp only at hSw); go_simp; try with_reducible rfl)
      try simp only [Act.put]
      try simp only [List.setIfInBounds_toArray]
      try simp only [List.set_cons_succ]
      try simp only [List.set_cons_zero]
      refine wpAnyH_take (i := 6) (v := ?_) rfl (by kernel_rfl) (by kernel_rfl) (by kernel_rfl) (fun _ _ _ h => h) (Or.inl ⟨by rfl, ?_⟩) (by assumption) ?_
      rotate_left
      · (intro w hSw; (try dsimp only at hSw); go_simp; try with_reducible rfl)
      try simp only [Act.put]
      try simp only [List.setIfInBounds_toArray]
      try simp only [List.set_cons_succ]
      try simp only [List.set_cons_zero]
      refine wpAnyH_ready (rs := [7]) (by kernel_rfl) (by simp) (AllReadyH.cons rfl (fun K hK => ?_) AllReadyH.nil)
      go_simp
      refine (page_clone' (p := p) (HP.out.all (Fr.refl All W1).drew) ok).mono ?_
      rintro e w7 ⟨PA7, pc7, rfl, o7, f7⟩
      go_simp
      have F7 : Fr All W1 w7 := (Fr.refl All W1).drew.then_all f7
      refine hK.out _ _ ⟨F7.cell trivial q0, F7.cell trivial p0, F7.cell trivial p1, F7.cell trivial p2, F7.cell trivial p3, F7.cell trivial p4⟩ (fun hHeld => ?_)
      clear hK K
      try simp only [Act.put]
      try simp only [List.setIfInBounds_toArray]
      try simp only [List.set_cons_succ]
      try simp only [List.set_cons_zero]
      have g0 := HH.out.lt
      have g1 := HH.out.hv.lt
      have g2 := HH.out.tv.lt
      have e7 : W1.drew.heap.size = W1.heap.size := rfl
      have hsq : Sl kEnt (OffG G B l t) w7 (.slice PA7 p.ents.length pc7) p.ents := o7.sl_in (fun b hb _ => by unfold From at hb; exact ⟨⟨by omega, by omega, by omega⟩, fun hG => by have := HH.out.gg b hG; omega⟩) (fun b hb _ => ⟨⟨by omega, by omega, by omega⟩, fun hG => by have := HH.out.gg b hG; omega⟩)
      obtain ⟨w8, hr8, m8, f8⟩ := (HH.out.all F7).hv.put Tryd.underlying3 Tryd.underlying60 (k := p.id) hi hnn (v := .agg #[.int .i64 p.id, .int .i64 p.lsn, .int .i64 p.level, .int .i64 p.next, .slice PA7 p.ents.length pc7]) (x := p) ⟨PA7, pc7, rfl, hsq⟩ (fun x hx => hx.1.2.1)
      have D8 : Pk G w8 B l t ((s.unwant p.id).has p.id p) := (HH.out.all F7).stays f8 HH.out.n1 m8 ((HH.out.all F7).tv.free.move f8 (Ne.symm HH.out.n3) (fun x (hx : Nowhere x) _ => hx.elim)).free
      have H8 := Lib.hid D8
      clear m8 D8 hsq o7 hHeld q0 p0 p1 p2 p3 p4
      refine wpAnyH_done (by kernel_rfl) ?_ _
      show wpList _ _ _ _ _ _
      go_wp2_with fail
      go_ret
      rw [HPU.out]
      exact ⟨rfl, H8.out, (((FTh.out.mono fun x (hx : Off B l t x) => hx.2.2).trans (F1.mono fun _ _ => trivial)).trans (F7.mono fun _ _ => trivial)).trans (f8.mono fun x (hx : Off B l t x) => hx.2.1)⟩)
  | some y =>
    obtain ⟨v, ⟨YA, yc, rfl, hys⟩, hlook⟩ := H5.out.hv.look_all Tryd.underlying3 Tryd.underlying60 zeroPage hi hm
    obtain ⟨yn, hyn⟩ : ∃ yn, y.ents.length = yn := ⟨_, rfl⟩
    rw [hyn] at hlook
    have hr1 := hlook _ (Fr.refl All w5).drew
    have hr2 := hlook _ ((Fr.refl All w5).alloc (.cells #[.int .i64 0, .int .i64 0, .int .i64 0, .int .i64 0, .slice none 0 0] 30)).drew
    have HM := Lib.hid hm
    clear hm hlook hys hyn
    cases hle : decide (y.lsn ≤ p.lsn) with
    | true =>
      have hpu : s.puts p = (s.unwant p.id).has p.id p := by simp [PSt.puts, HM.out, of_decide_eq_true hle]
      have HPU := Lib.hid hpu
      clear hpu
      go_upto_region 5 with (fail)
      go_region
      all_goals (
        generalize hW1 : (w5.alloc (.cells #[.int .i64 y.id, .int .i64 y.lsn, .int .i64 y.level, .int .i64 y.next, .slice YA yn yc] 30)).drew = W1
        have F1 : Fr All w5 W1 := by
          rw [← hW1]
          exact ((Fr.refl All w5).alloc _).drew
        have HH := Lib.hid (H5.out.all F1)
        have HP := Lib.hid (HP5.out.all F1)
        have BB := (F1.block _ (blk_lt BR) trivial).trans BR
        have BY : W1.heap[w5.heap.size]? = some (.cells #[.int .i64 y.id, .int .i64 y.lsn, .int .i64 y.level, .int .i64 y.next, .slice YA yn yc] 30 (0, 0)) := by
          rw [← hW1]
          exact heap_alloc_new w5 _
        clear p0 p1 p2 p3 p4 pz q0 hr1 hr2 hlR hlB hW1
        obtain ⟨p0, p1, p2, p3, p4, pz⟩ := blk5 BB
        obtain ⟨y0, y1, y2, y3, y4, yz⟩ := blk5 BY
        have q0 := HH.out.c0
        clear BB BY
        go_upto_region 7 with (fail)
        refine wp_region_last (S := fun w' => w'.cell? ⟨B, 0, none⟩ = some (.map (some l)) ∧ w'.cell? ⟨w.heap.size, 0, none⟩ = some (.int .i64 p.id) ∧ w'.cell? ⟨w.heap.size, 1, none⟩ = some (.int .i64 p.lsn) ∧ w'.cell? ⟨w.heap.size, 2, none⟩ = some (.int .i64 p.level) ∧ w'.cell? ⟨w.heap.size, 3, none⟩ = some (.int .i64 p.next) ∧ w'.cell? ⟨w.heap.size, 4, none⟩ = some (.slice A n c)) 8 (by kernel_rfl) rfl (by kernel_rfl) ⟨q0, p0, p1, p2, p3, p4⟩ (fun hHeld => ?_)
        simp only [List.take_succ_cons, List.take_zero]
        refine wpAnyH_take (i := 0) (v := ?_) rfl (by kernel_rfl) (by kernel_rfl) (by kernel_rfl) (fun _ _ _ h => h) (Or.inl ⟨by rfl, ?_⟩) (by assumption) ?_
        rotate_left
        · (intro w hSw; (try dsimp only at hSw); go_simp; try with_reducible rfl)
        try simp only [Act.put]
        try simp only [List.setIfInBounds_toArray]
        try simp only [List.set_cons_succ]
        try simp only [List.set_cons_zero]
        refine wpAnyH_take (i := 1) (v := ?_) rfl (by kernel_rfl) (by kernel_rfl) (by kernel_rfl) (fun _ _ _ h => h) (Or.inl ⟨by rfl, ?_⟩) (by assumption) ?_
        rotate_left
        · (intro w hSw; (try dsimp only at hSw); go_simp; try with_reducible rfl)
        try simp only [Act.put]
        try simp only [List.setIfInBounds_toArray]
        try simp only [List.set_cons_succ]
        try simp only [List.set_cons_zero]
        refine wpAnyH_take (i := 2) (v := ?_) rfl (by kernel_rfl) (by kernel_rfl) (by kernel_rfl) (fun _ _ _ h => h) (Or.inl ⟨by rfl, ?_⟩) (by assumption) ?_
        rotate_left
        · (intro w hSw; (try dsimp only at hSw); go_simp; try with_reducible rfl)
        try simp only [Act.put]
        try simp only [List.setIfInBounds_toArray]
        try simp only [List.set_cons_succ]
        try simp only [List.set_cons_zero]
        refine wpAnyH_take (i := 3) (v := ?_) rfl (by kernel_rfl) (by kernel_rfl) (by kernel_rfl) (fun _ _ _ h => h) (Or.inl ⟨by rfl, ?_⟩) (by assumption) ?_
        rotate_left
        · (intro w hSw; (try dsimp only at hSw); go_simp; try with_reducible rfl)
        try simp only [Act.put]
        try simp only [List.setIfInBounds_toArray]
        try simp only [List.set_cons_succ]
        try simp only [List.set_cons_zero]
        refine wpAnyH_take (i := 4) (v := ?_) rfl (by kernel_rfl) (by kernel_rfl) (by kernel_rfl) (fun _ _ _ h => h) (Or.inl ⟨by rfl, ?_⟩) (by assumption) ?_
        rotate_left
        · (intro w hSw; (try dsimp only at hSw); go_simp; try with_reducible rfl)
        try simp only [Act.put]
        try simp only [List.setIfInBounds_toArray]
        try simp only [List.set_cons_succ]
        try simp only [List.set_cons_zero]
        refine wpAnyH_take (i := 5) (v := ?_) rfl (by kernel_rfl) (by kernel_rfl) (by kernel_rfl) (fun _ _ _ h => h) (Or.inl ⟨by rfl, ?_⟩) (by assumption) ?_
        rotate_left
        · (intro w hSw; (try dsimp only at hSw); go_simp; try with_reducible rfl)
        try simp only [Act.put]
        try simp only [List.setIfInBounds_toArray]
        try simp only [List.set_cons_succ]
        try simp only [List.set_cons_zero]
        refine wpAnyH_take (i := 6) (v := ?_) rfl (by kernel_rfl) (by kernel_rfl) (by kernel_rfl) (fun _ _ _ h => h) (Or.inl ⟨by rfl, ?_⟩) (by assumption) ?_
        rotate_left
        · (intro w hSw; (try dsimp only at hSw); go_simp; try with_reducible rfl)
        try simp only [Act.put]
        try simp only [List.setIfInBounds_toArray]
        try simp only [List.set_cons_succ]
        try simp only [List.set_cons_zero]
        refine wpAnyH_ready (rs := [7]) (by kernel_rfl) (by simp) (AllReadyH.cons rfl (fun K hK => ?_) AllReadyH.nil)
        go_simp
        refine (page_clone' (p := p) (HP.out.all (Fr.refl All W1).drew) ok).mono ?_
        rintro e w7 ⟨PA7, pc7, rfl, o7, f7⟩
        go_simp
        have F7 : Fr All W1 w7 := (Fr.refl All W1).drew.then_all f7
        refine hK.out _ _ ⟨F7.cell trivial q0, F7.cell trivial p0, F7.cell trivial p1, F7.cell trivial p2, F7.cell trivial p3, F7.cell trivial p4⟩ (fun hHeld => ?_)
        clear hK K
        try simp only [Act.put]
        try simp only [List.setIfInBounds_toArray]
        try simp only [List.set_cons_succ]
        try simp only [List.set_cons_zero]
        have g0 := HH.out.lt
        have g1 := HH.out.hv.lt
        have g2 := HH.out.tv.lt
        have e7 : W1.drew.heap.size = W1.heap.size := rfl
        have hsq : Sl kEnt (OffG G B l t) w7 (.slice PA7 p.ents.length pc7) p.ents := o7.sl_in (fun b hb _ => by unfold From at hb; exact ⟨⟨by omega, by omega, by omega⟩, fun hG => by have := HH.out.gg b hG; omega⟩) (fun b hb _ => ⟨⟨by omega, by omega, by omega⟩, fun hG => by have := HH.out.gg b hG; omega⟩)
        obtain ⟨w8, hr8, m8, f8⟩ := (HH.out.all F7).hv.put Tryd.underlying3 Tryd.underlying60 (k := p.id) hi hnn (v := .agg #[.int .i64 p.id, .int .i64 p.lsn, .int .i64 p.level, .int .i64 p.next, .slice PA7 p.ents.length pc7]) (x := p) ⟨PA7, pc7, rfl, hsq⟩ (fun x hx => hx.1.2.1)
        have D8 : Pk G w8 B l t ((s.unwant p.id).has p.id p) := (HH.out.all F7).stays f8 HH.out.n1 m8 ((HH.out.all F7).tv.free.move f8 (Ne.symm HH.out.n3) (fun x (hx : Nowhere x) _ => hx.elim)).free
        have H8 := Lib.hid D8
        clear m8 D8 hsq o7 hHeld q0 p0 p1 p2 p3 p4
        refine wpAnyH_done (by kernel_rfl) ?_ _
        show wpList _ _ _ _ _ _
        go_wp2_with fail
        go_ret
        rw [HPU.out]
        exact ⟨rfl, H8.out, (((FTh.out.mono fun x (hx : Off B l t x) => hx.2.2).trans (F1.mono fun _ _ => trivial)).trans (F7.mono fun _ _ => trivial)).trans (f8.mono fun x (hx : Off B l t x) => hx.2.1)⟩)
    | false =>
      have hpu : s.puts p = s.unwant p.id := by
        have := of_decide_eq_false hle
        simp [PSt.puts, HM.out, this]
      have HPU := Lib.hid hpu
      clear hpu
      go_upto_region 5 with (fail)
      go_region
      all_goals (
        generalize hW1 : (w5.alloc (.cells #[.int .i64 y.id, .int .i64 y.lsn, .int .i64 y.level, .int .i64 y.next, .slice YA yn yc] 30)).drew = W1
        have F1 : Fr All w5 W1 := by
          rw [← hW1]
          exact ((Fr.refl All w5).alloc _).drew
        have HH := Lib.hid (H5.out.all F1)
        have HP := Lib.hid (HP5.out.all F1)
        have BB := (F1.block _ (blk_lt BR) trivial).trans BR
        have BY : W1.heap[w5.heap.size]? = some (.cells #[.int .i64 y.id, .int .i64 y.lsn, .int .i64 y.level, .int .i64 y.next, .slice YA yn yc] 30 (0, 0)) := by
          rw [← hW1]
          exact heap_alloc_new w5 _
        clear p0 p1 p2 p3 p4 pz q0 hr1 hr2 hlR hlB hW1
        obtain ⟨p0, p1, p2, p3, p4, pz⟩ := blk5 BB
        obtain ⟨y0, y1, y2, y3, y4, yz⟩ := blk5 BY
        clear BB BY
        go_wp2_with fail
        go_ret
        rw [HPU.out]
        exact ⟨rfl, HH.out, (FTh.out.mono fun x (hx : Off B l t x) => hx.2.2).trans (F1.mono fun _ _ => trivial)⟩)
end Go.Proofs.YtppjpfgjophgkaaDoor
