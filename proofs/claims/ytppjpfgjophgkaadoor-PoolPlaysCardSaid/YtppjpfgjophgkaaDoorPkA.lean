/- The pool's Apply. -/
import Derived.Test.YtppjpfgjophgkaaDoorPk
import Derived.Test.YtppjpfgjophgkaaDoorPNew
import Derived.Test.YtppjpfgjophgkaaDoorApply4
import Derived.Test.YtppjpfgjophgkaaDoorValidOk
import Derived.Test.YtppjpfgjophgkaaDoorLast3
import Derived.Deep.RegionHeld3
namespace Go.Proofs.YtppjpfgjophgkaaDoor
open Go.RowKit Go.Maps

/-- With a page. -/
def PSt.has (s : PSt) (i : Int) (q : Page) : PSt := { s with have_ := gput s.have_ i q, nh := (if (s.have_ i).isSome then s.nh else s.nh + 1) }
/-- No more wanted. -/
def PSt.unwant (s : PSt) (i : Int) : PSt := { s with wants := gdel s.wants i, nw := (if (s.wants i).isSome then s.nw - 1 else s.nw) }

set_option hygiene false in
set_option maxRecDepth 100000 in
set_option maxHeartbeats 2000000 in
theorem apply_no {G : Nat → Prop} {w : World} {B l t : Nat} {s : PSt} {r : Redo} {A0 A1 : Option Addr} {n0 c0 n1 c1 : Nat} (h : Pk G w B l t s) (hi : In64 r.page) (hm : s.have_ r.page = none) (hk : r.kind ≠ 1) :
    Calls Tryd.prog 21 #[.pointer (some ⟨B, 0, none⟩), .agg #[.int .i64 r.lsn, .int .i64 r.back, .int .i64 r.epoch, .int .i64 r.group, .int .i64 r.page, .int .i64 r.kind, .int .i64 r.slot, .slice A0 n0 c0, .slice A1 n1 c1, .bool r.last]] w
      fun e w' => e = .returned (.bool false) ∧ Pk G w' B l t s ∧ Fr All w w' := by
  have B0 := heap_alloc_new w (.cells #[.int .i64 r.lsn, .int .i64 r.back, .int .i64 r.epoch, .int .i64 r.group, .int .i64 r.page, .int .i64 r.kind, .int .i64 r.slot, .slice A0 n0 c0, .slice A1 n1 c1, .bool r.last] 33)
  have F0 := (Fr.refl All w).alloc (.cells #[.int .i64 r.lsn, .int .i64 r.back, .int .i64 r.epoch, .int .i64 r.group, .int .i64 r.page, .int .i64 r.kind, .int .i64 r.slot, .slice A0 n0 c0, .slice A1 n1 c1, .bool r.last] 33)
  have hkb : (r.kind != 1) = true := by simpa using hk
  go_enter Tryd.func21, Tryd.ntmps21
  go_upto_region 1 with (fail)
  refine wp_name ?_
  intro W hW
  rw [← hW] at B0 F0
  clear hW hk
  have H := Lib.hid (h.all F0)
  obtain ⟨p0, p1, p2, p3, p4, p5, p6, p7, p8, p9, pz⟩ := blk10 B0
  have q0 := H.out.c0
  have hr1 := (H.out.all (Fr.refl All W).drew).hv.look_none Tryd.underlying3 Tryd.underlying60 zeroPage hi hm
  have F1 := ((Fr.refl All W).alloc (.cells #[.int .i64 0, .int .i64 0, .int .i64 0, .int .i64 0, .slice none 0 0] 30)).drew
  have hr2 := (H.out.all F1).hv.look_none Tryd.underlying3 Tryd.underlying60 zeroPage hi hm
  have FW := Lib.hid F0
  have FW1 := Lib.hid F1
  have hlW := blk_lt B0
  have hlB := H.out.lt
  clear F0 F1 h hm B0
  go_region
  all_goals (
    go_wp2_with fail
    go_ret
    exact ⟨rfl, H.out.all FW1.out, FW.out.trans FW1.out⟩)

set_option hygiene false in
set_option maxRecDepth 100000 in
set_option maxHeartbeats 4000000 in
theorem apply_some {G : Nat → Prop} {w : World} {B l t : Nat} {s : PSt} {r : Redo} {p : Page} {S0 S1 : Nat → Prop} {A0 A1 : Option Addr} {n0 c0 n1 c1 : Nat} (h : Pk G w B l t s) (hi : In64 r.page) (hm : s.have_ r.page = some p) (ok : EntsOk p.ents) (k0 : Sl kByte S0 w (.slice A0 n0 c0) r.key) (k1 : Sl kByte S1 w (.slice A1 n1 c1) r.val) (hl0 : r.key.length ≤ 1000000) (hl1 : r.val.length ≤ 1000000) (hsl : 0 ≤ r.slot) (hnn : s.nh < 1000000) :
    Calls Tryd.prog 21 #[.pointer (some ⟨B, 0, none⟩), .agg #[.int .i64 r.lsn, .int .i64 r.back, .int .i64 r.epoch, .int .i64 r.group, .int .i64 r.page, .int .i64 r.kind, .int .i64 r.slot, .slice A0 n0 c0, .slice A1 n1 c1, .bool r.last]] w
      fun e w' => e = .returned (.bool true) ∧ Pk G w' B l t (s.has r.page (papply p r)) ∧ Fr (Off B l t) w w' := by
  have B0 := heap_alloc_new w (.cells #[.int .i64 r.lsn, .int .i64 r.back, .int .i64 r.epoch, .int .i64 r.group, .int .i64 r.page, .int .i64 r.kind, .int .i64 r.slot, .slice A0 n0 c0, .slice A1 n1 c1, .bool r.last] 33)
  have F0 := (Fr.refl All w).alloc (.cells #[.int .i64 r.lsn, .int .i64 r.back, .int .i64 r.epoch, .int .i64 r.group, .int .i64 r.page, .int .i64 r.kind, .int .i64 r.slot, .slice A0 n0 c0, .slice A1 n1 c1, .bool r.last] 33)
  obtain ⟨v, ⟨PA, pc, rfl, hs⟩, hlook⟩ := h.hv.look_all Tryd.underlying3 Tryd.underlying60 zeroPage hi hm
  obtain ⟨pn, hpn⟩ : ∃ pn, p.ents.length = pn := ⟨_, rfl⟩
  rw [hpn] at hs hlook
  go_enter Tryd.func21, Tryd.ntmps21
  go_upto_region 1 with (fail)
  refine wp_name ?_
  intro W hW
  rw [← hW] at B0 F0
  clear hW
  have H := Lib.hid (h.all F0)
  obtain ⟨p0, p1, p2, p3, p4, p5, p6, p7, p8, p9, pz⟩ := blk10 B0
  have q0 := H.out.c0
  have hr1 := hlook _ F0.drew
  have hr2 := hlook _ (F0.alloc (.cells #[.int .i64 0, .int .i64 0, .int .i64 0, .int .i64 0, .slice none 0 0] 30)).drew
  have FW := Lib.hid F0
  have HPN := Lib.hid hpn
  have HS := Lib.hid hs
  have HK0' := Lib.hid k0
  have HK1' := Lib.hid k1
  have hlW := blk_lt B0
  have hlB := H.out.lt
  have HB := Lib.hid B0
  clear F0 h hm B0 hlook hs hpn k0 k1
  go_region
  all_goals (
    generalize hX : W.heap.size = X
    have F1 := ((Fr.refl All W).alloc (.cells #[.int .i64 p.id, .int .i64 p.lsn, .int .i64 p.level, .int .i64 p.next, .slice PA pn pc] 30)).drew
    have B1 := heap_alloc_new W (.cells #[.int .i64 p.id, .int .i64 p.lsn, .int .i64 p.level, .int .i64 p.next, .slice PA pn pc] 30)
    generalize hW1 : (W.alloc (.cells #[.int .i64 p.id, .int .i64 p.lsn, .int .i64 p.level, .int .i64 p.next, .slice PA pn pc] 30)).drew = W1
    rw [hW1] at F1
    have B2 : W1.heap[X]? = some (.cells #[.int .i64 p.id, .int .i64 p.lsn, .int .i64 p.level, .int .i64 p.next, .slice PA pn pc] 30 (0, 0)) := by
      rw [← hW1, ← hX]
      exact B1
    have HH := Lib.hid (H.out.all F1)
    have HP := Lib.hid (HS.out.all (FW.out.trans F1))
    have HK0 := Lib.hid (HK0'.out.all (FW.out.trans F1))
    have HK1 := Lib.hid (HK1'.out.all (FW.out.trans F1))
    have FF := Lib.hid (FW.out.trans F1)
    have BB := (F1.block _ (blk_lt HB.out) trivial).trans HB.out
    clear p0 p1 p2 p3 p4 p5 p6 p7 p8 p9 pz q0 hr1 hr2 B1 hW1 hlW hlB F1 hX
    obtain ⟨x0, x1, x2, x3, x4, xz⟩ := blk5 B2
    obtain ⟨p0, p1, p2, p3, p4, p5, p6, p7, p8, p9, pz⟩ := blk10 BB
    have q0 := HH.out.c0
    clear BB B2
    go_upto_region 7 with (fail)
    refine wp_region_last (S := fun w' => w'.cell? ⟨B, 0, none⟩ = some (.map (some l)) ∧ w'.cell? ⟨w.heap.size, 0, none⟩ = some (.int .i64 r.lsn) ∧ w'.cell? ⟨w.heap.size, 1, none⟩ = some (.int .i64 r.back) ∧ w'.cell? ⟨w.heap.size, 2, none⟩ = some (.int .i64 r.epoch) ∧ w'.cell? ⟨w.heap.size, 3, none⟩ = some (.int .i64 r.group) ∧ w'.cell? ⟨w.heap.size, 4, none⟩ = some (.int .i64 r.page) ∧ w'.cell? ⟨w.heap.size, 5, none⟩ = some (.int .i64 r.kind) ∧ w'.cell? ⟨w.heap.size, 6, none⟩ = some (.int .i64 r.slot) ∧ w'.cell? ⟨w.heap.size, 7, none⟩ = some (.slice A0 n0 c0) ∧ w'.cell? ⟨w.heap.size, 8, none⟩ = some (.slice A1 n1 c1) ∧ w'.cell? ⟨w.heap.size, 9, none⟩ = some (.bool r.last) ∧ w'.cell? ⟨X, 0, none⟩ = some (.int .i64 p.id) ∧ w'.cell? ⟨X, 1, none⟩ = some (.int .i64 p.lsn) ∧ w'.cell? ⟨X, 2, none⟩ = some (.int .i64 p.level) ∧ w'.cell? ⟨X, 3, none⟩ = some (.int .i64 p.next) ∧ w'.cell? ⟨X, 4, none⟩ = some (.slice PA pn pc)) 9 (by kernel_rfl) rfl (by kernel_rfl) ⟨q0, p0, p1, p2, p3, p4, p5, p6, p7, p8, p9, x0, x1, x2, x3, x4⟩ (fun hHeld => ?_)
    simp only [List.take_succ_cons, List.take_zero]
    refine wpAnyH_take (i := 0) (v := ?_) rfl (by kernel_rfl) (by kernel_rfl) (by kernel_rfl) (fun _ _ _ h => h) (Or.inl ⟨by rfl, ?_⟩) (by assumption) ?_
    rotate_left
    · (intro w hSw; (try dsimp only at hSw); go_simp; try with_reducible rfl)
    try simp only [Act.put]
    try simp only [List.setIfInBounds_toArray]
    try simp only [List.set_cons_succ]
    try simp only [List.set_cons_zero]
    refine wpAnyH_take (i := 1) (v := ?_) rfl (by kernel_rfl) (by kernel_rfl) (by kernel_rfl) (fun _ _ _ h => h) (Or.inl ⟨by rfl, ?_⟩) (by assumption) ?_
    rotate_left
    · (intro w hSw; (try dsimp only at hSw); go_simp; try with_reducible rfl)
    try simp only [Act.put]
    try simp only [List.setIfInBounds_toArray]
    try simp only [List.set_cons_succ]
    try simp only [List.set_cons_zero]
    refine wpAnyH_take (i := 2) (v := ?_) rfl (by kernel_rfl) (by kernel_rfl) (by kernel_rfl) (fun _ _ _ h => h) (Or.inl ⟨by rfl, ?_⟩) (by assumption) ?_
    rotate_left
    · (intro w hSw; (try dsimp only at hSw); go_simp; try with_reducible rfl)
    try simp only [Act.put]
    try simp only [List.setIfInBounds_toArray]
    try simp only [List.set_cons_succ]
    try simp only [List.set_cons_zero]
    refine wpAnyH_take (i := 3) (v := ?_) rfl (by kernel_rfl) (by kernel_rfl) (by kernel_rfl) (fun _ _ _ h => h) (Or.inl ⟨by rfl, ?_⟩) (by assumption) ?_
    rotate_left
    · (intro w hSw; (try dsimp only at hSw); go_simp; try with_reducible rfl)
    try simp only [Act.put]
    try simp only [List.setIfInBounds_toArray]
    try simp only [List.set_cons_succ]
    try simp only [List.set_cons_zero]
    refine wpAnyH_take (i := 4) (v := ?_) rfl (by kernel_rfl) (by kernel_rfl) (by kernel_rfl) (fun _ _ _ h => h) (Or.inl ⟨by rfl, ?_⟩) (by assumption) ?_
    rotate_left
    · (intro w hSw; (try dsimp only at hSw); go_simp; try with_reducible rfl)
    try simp only [Act.put]
    try simp only [List.setIfInBounds_toArray]
    try simp only [List.set_cons_succ]
    try simp only [List.set_cons_zero]
    refine wpAnyH_take (i := 5) (v := ?_) rfl (by kernel_rfl) (by kernel_rfl) (by kernel_rfl) (fun _ _ _ h => h) (Or.inl ⟨by rfl, ?_⟩) (by assumption) ?_
    rotate_left
    · (intro w hSw; (try dsimp only at hSw); go_simp; try with_reducible rfl)
    try simp only [Act.put]
    try simp only [List.setIfInBounds_toArray]
    try simp only [List.set_cons_succ]
    try simp only [List.set_cons_zero]
    refine wpAnyH_take (i := 6) (v := ?_) rfl (by kernel_rfl) (by kernel_rfl) (by kernel_rfl) (fun _ _ _ h => h) (Or.inl ⟨by rfl, ?_⟩) (by assumption) ?_
    rotate_left
    · (intro w hSw; (try dsimp only at hSw); go_simp; try with_reducible rfl)
    try simp only [Act.put]
    try simp only [List.setIfInBounds_toArray]
    try simp only [List.set_cons_succ]
    try simp only [List.set_cons_zero]
    refine wpAnyH_take (i := 7) (v := ?_) rfl (by kernel_rfl) (by kernel_rfl) (by kernel_rfl) (fun _ _ _ h => h) (Or.inl ⟨by rfl, ?_⟩) (by assumption) ?_
    rotate_left
    · (intro w hSw; (try dsimp only at hSw); go_simp; try with_reducible rfl)
    try simp only [Act.put]
    try simp only [List.setIfInBounds_toArray]
    try simp only [List.set_cons_succ]
    try simp only [List.set_cons_zero]
    refine wpAnyH_ready (rs := [8]) (by kernel_rfl) (by simp) (AllReadyH.cons rfl (fun K hK => ?_) AllReadyH.nil)
    go_simp
    refine (page_apply (p := p) (r := r) (HP.out.all (Fr.refl All W1).drew) ok (HK0.out.all (Fr.refl All W1).drew) (HK1.out.all (Fr.refl All W1).drew) hl0 hl1 hsl).mono ?_
    rintro e w7 ⟨PA7, pc7, rfl, o7, f7⟩
    go_simp
    have F7 : Fr All W1 w7 := (Fr.refl All W1).drew.then_all f7
    refine hK.out _ _ ⟨F7.cell trivial q0, F7.cell trivial p0, F7.cell trivial p1, F7.cell trivial p2, F7.cell trivial p3, F7.cell trivial p4, F7.cell trivial p5, F7.cell trivial p6, F7.cell trivial p7, F7.cell trivial p8, F7.cell trivial p9, F7.cell trivial x0, F7.cell trivial x1, F7.cell trivial x2, F7.cell trivial x3, F7.cell trivial x4⟩ (fun hHeld => ?_)
    clear hK K
    try simp only [Act.put]
    try simp only [List.setIfInBounds_toArray]
    try simp only [List.set_cons_succ]
    try simp only [List.set_cons_zero]
    obtain ⟨q, hq⟩ : ∃ q, papply p r = q := ⟨_, rfl⟩
    rw [hq] at o7 ⊢
    have HQ := Lib.hid hq
    have g0 := HH.out.lt
    have g1 := HH.out.hv.lt
    have g2 := HH.out.tv.lt
    have e7 : W1.drew.heap.size = W1.heap.size := rfl
    have hsq : Sl kEnt (OffG G B l t) w7 (.slice PA7 q.ents.length pc7) q.ents := o7.sl_in (fun b hb _ => by unfold From at hb; exact ⟨⟨by omega, by omega, by omega⟩, fun hG => by have := HH.out.gg b hG; omega⟩) (fun b hb _ => ⟨⟨by omega, by omega, by omega⟩, fun hG => by have := HH.out.gg b hG; omega⟩)
    obtain ⟨w8, hr8, m8, f8⟩ := (HH.out.all F7).hv.put Tryd.underlying3 Tryd.underlying60 (k := r.page) hi hnn (v := .agg #[.int .i64 q.id, .int .i64 q.lsn, .int .i64 q.level, .int .i64 q.next, .slice PA7 q.ents.length pc7]) (x := q) ⟨PA7, pc7, rfl, hsq⟩ (fun x hx => hx.1.2.1)
    have D8 : Pk G w8 B l t (s.has r.page q) := (HH.out.all F7).stays f8 HH.out.n1 m8 ((HH.out.all F7).tv.free.move f8 (Ne.symm HH.out.n3) (fun x (hx : Nowhere x) _ => hx.elim)).free
    have H8 := Lib.hid D8
    clear m8 D8 hsq o7 hHeld q0 p0 p1 p2 p3 p4 p5 p6 p7 p8 p9 x0 x1 x2 x3 x4 hq
    refine wpAnyH_done (by kernel_rfl) ?_ _
    show wpList _ _ _ _ _ _
    go_wp2_with fail
    go_ret
    rw [HQ.out]
    exact ⟨rfl, H8.out, (((FF.out.trans F7).mono fun _ _ => trivial).trans f8).mono fun x (hx : Off B l t x) => hx.2.1⟩)
set_option hygiene false in
set_option maxRecDepth 100000 in
set_option maxHeartbeats 4000000 in
theorem apply_new {G : Nat → Prop} {w : World} {B l t : Nat} {s : PSt} {r : Redo} {S0 S1 : Nat → Prop} {A0 A1 : Option Addr} {n0 c0 n1 c1 : Nat} (h : Pk G w B l t s) (hi : In64 r.page) (hm : s.have_ r.page = none) (hk : r.kind = 1) (hvx : validIx r = none) (hS0 : ∀ x, S0 x → x < w.heap.size → x ≠ t) (hS1 : ∀ x, S1 x → x < w.heap.size → x ≠ t) (k0 : Sl kByte S0 w (.slice A0 n0 c0) r.key) (k1 : Sl kByte S1 w (.slice A1 n1 c1) r.val) (hl0 : r.key.length ≤ 1000000) (hl1 : r.val.length ≤ 1000000) (hsl : 0 ≤ r.slot) (hnn : s.nh < 1000000) :
    Calls Tryd.prog 21 #[.pointer (some ⟨B, 0, none⟩), .agg #[.int .i64 r.lsn, .int .i64 r.back, .int .i64 r.epoch, .int .i64 r.group, .int .i64 r.page, .int .i64 r.kind, .int .i64 r.slot, .slice A0 n0 c0, .slice A1 n1 c1, .bool r.last]] w
      fun e w' => e = .returned (.bool true) ∧ Pk G w' B l t ((s.unwant r.page).has r.page (papply ⟨r.page, 0, 0, -1, []⟩ r)) ∧ Fr (Off B l t) w w' := by
  have B0 := heap_alloc_new w (.cells #[.int .i64 r.lsn, .int .i64 r.back, .int .i64 r.epoch, .int .i64 r.group, .int .i64 r.page, .int .i64 r.kind, .int .i64 r.slot, .slice A0 n0 c0, .slice A1 n1 c1, .bool r.last] 33)
  have F0 := (Fr.refl All w).alloc (.cells #[.int .i64 r.lsn, .int .i64 r.back, .int .i64 r.epoch, .int .i64 r.group, .int .i64 r.page, .int .i64 r.kind, .int .i64 r.slot, .slice A0 n0 c0, .slice A1 n1 c1, .bool r.last] 33)
  have hlook : ∀ W, Fr All w W → (Instr.lookup 60 (.map (some l)) (.int .i64 r.page) true).run Tryd.prog W = .ok (.tuple #[.agg #[.int .i64 0, .int .i64 0, .int .i64 0, .int .i64 0, .slice none 0 0], .bool false]) W := fun W f => (h.hv.all f).look_none Tryd.underlying3 Tryd.underlying60 zeroPage hi hm
  have hkb : (r.kind != 1) = false := by rw [hk]; rfl
  have HV := Lib.hid hvx
  have H0 := Lib.hid h
  clear hk hvx
  go_enter Tryd.func21, Tryd.ntmps21
  go_upto_region 1 with (fail)
  refine wp_name ?_
  intro W hW
  rw [← hW] at B0 F0
  clear hW
  have H := Lib.hid (h.all F0)
  obtain ⟨p0, p1, p2, p3, p4, p5, p6, p7, p8, p9, pz⟩ := blk10 B0
  have q0 := H.out.c0
  have hr1 := hlook _ F0.drew
  have hr2 := hlook _ (F0.alloc (.cells #[.int .i64 0, .int .i64 0, .int .i64 0, .int .i64 0, .slice none 0 0] 30)).drew
  have FW := Lib.hid F0
  have HK0' := Lib.hid k0
  have HK1' := Lib.hid k1
  have hlW := blk_lt B0
  have hlB := H.out.lt
  have HB := Lib.hid B0
  clear F0 h hm B0 hlook k0 k1
  go_region
  all_goals (
    generalize hX : W.heap.size = X
    have F1 := ((Fr.refl All W).alloc (.cells #[.int .i64 0, .int .i64 0, .int .i64 0, .int .i64 0, .slice none 0 0] 30)).drew
    have B1 := heap_alloc_new W (.cells #[.int .i64 0, .int .i64 0, .int .i64 0, .int .i64 0, .slice none 0 0] 30)
    generalize hW1 : (W.alloc (.cells #[.int .i64 0, .int .i64 0, .int .i64 0, .int .i64 0, .slice none 0 0] 30)).drew = Wa
    rw [hW1] at F1
    have B2 : Wa.heap[X]? = some (.cells #[.int .i64 0, .int .i64 0, .int .i64 0, .int .i64 0, .slice none 0 0] 30 (0, 0)) := by
      rw [← hW1, ← hX]
      exact B1
    have FF := Lib.hid (FW.out.trans F1)
    have BB := (F1.block _ (blk_lt HB.out) trivial).trans HB.out
    have hwX : w.heap.size < X := by rw [← hX]; exact blk_lt HB.out
    clear p0 p1 p2 p3 p4 p5 p6 p7 p8 p9 pz q0 hr1 hr2 B1 hW1 hlW hlB F1 hX
    obtain ⟨x0, x1, x2, x3, x4, xz⟩ := blk5 B2
    obtain ⟨p0, p1, p2, p3, p4, p5, p6, p7, p8, p9, pz⟩ := blk10 BB
    go_wp2_with fail
    refine (valid_ok (r := r) HV.out (HK0'.out.all FF.out) (HK1'.out.all FF.out)).mono ?_
    rintro e w2 ⟨rfl, f2⟩
    have B3 := (f2.block _ (blk_lt B2) trivial).trans B2
    have BB2 := (f2.block _ (blk_lt BB) trivial).trans BB
    clear x0 x1 x2 x3 x4 xz p0 p1 p2 p3 p4 p5 p6 p7 p8 p9 pz B2 BB
    obtain ⟨p0, p1, p2, p3, p4, p5, p6, p7, p8, p9, pz⟩ := blk10 BB2
    go_wp2_with fail
    refine (page_new r.page w2).mono ?_
    rintro e w3 ⟨PA, pc, rfl, o3, f3⟩
    have B4 := (f3.block _ (blk_lt B3) trivial).trans B3
    have BB3 := (f3.block _ (blk_lt BB2) trivial).trans BB2
    have FF3 := Lib.hid ((FF.out.trans f2).trans f3)
    have hX3 := blk_lt B4
    have hpc : pc ≤ maxLen := by
      obtain ⟨_, _, _, he5, _, _, h5⟩ := o3.sl.open_
      injection he5 with _ _ h6
      rw [h6]
      exact h5
    clear p0 p1 p2 p3 p4 p5 p6 p7 p8 p9 pz B3 BB2 f2 f3 FF o3
    obtain ⟨x0, x1, x2, x3, x4, xz⟩ := blk5 B4
    obtain ⟨p0, p1, p2, p3, p4, p5, p6, p7, p8, p9, pz⟩ := blk10 BB3
    dsimp only [List.length_nil]
    go_upto_region 6 with (fail)
    have F4 : Fr (fun x => x ≠ X) w3 (((((w3.setCell ⟨X, 0, none⟩ (.int .i64 r.page)).setCell ⟨X, 1, none⟩ (.int .i64 0)).setCell ⟨X, 2, none⟩ (.int .i64 0)).setCell ⟨X, 3, none⟩ (.int .i64 (-1))).setCell ⟨X, 4, none⟩ (.slice PA 0 pc)) := by
      repeat (first | (with_reducible exact Fr.refl _ _) | with_reducible refine Fr.setCell ?_ (fun m hm => by exact hm) _)
    have FF4 : Fr All w (((((w3.setCell ⟨X, 0, none⟩ (.int .i64 r.page)).setCell ⟨X, 1, none⟩ (.int .i64 0)).setCell ⟨X, 2, none⟩ (.int .i64 0)).setCell ⟨X, 3, none⟩ (.int .i64 (-1))).setCell ⟨X, 4, none⟩ (.slice PA 0 pc)) := by
      have FF0 := FF3.out
      repeat (first | (with_reducible exact FF0) | with_reducible refine Fr.setNew ?_ (by dsimp only; omega) _)
    have B5 : (((((w3.setCell ⟨X, 0, none⟩ (.int .i64 r.page)).setCell ⟨X, 1, none⟩ (.int .i64 0)).setCell ⟨X, 2, none⟩ (.int .i64 0)).setCell ⟨X, 3, none⟩ (.int .i64 (-1))).setCell ⟨X, 4, none⟩ (.slice PA 0 pc)).heap[X]? = some (.cells #[.int .i64 r.page, .int .i64 0, .int .i64 0, .int .i64 (-1), .slice PA 0 pc] 30 (0, 0)) :=
      heap_setCell_same _ X 4 _ _ _ (heap_setCell_same _ X 3 _ _ _ (heap_setCell_same _ X 2 _ _ _ (heap_setCell_same _ X 1 _ _ _ (heap_setCell_same _ X 0 _ _ _ B4))))
    have BB5 := (F4.block _ (blk_lt BB3) (show w.heap.size ≠ X by omega)).trans BB3
    generalize (((((w3.setCell ⟨X, 0, none⟩ (.int .i64 r.page)).setCell ⟨X, 1, none⟩ (.int .i64 0)).setCell ⟨X, 2, none⟩ (.int .i64 0)).setCell ⟨X, 3, none⟩ (.int .i64 (-1))).setCell ⟨X, 4, none⟩ (.slice PA 0 pc)) = W4 at *
    have Hp := Lib.hid (H0.out.all FF4)
    clear x0 x1 x2 x3 x4 xz p0 p1 p2 p3 p4 p5 p6 p7 p8 p9 pz B4 BB3 F4
    obtain ⟨p0, p1, p2, p3, p4, p5, p6, p7, p8, p9, pz⟩ := blk10 BB5
    have q1 := Hp.out.c1
    obtain ⟨w5, hr5, m5, f5⟩ := (Hp.out.all (Fr.refl All W4).drew).tv.del Tryd.underlying3 Tryd.underlying61 hi (fun x hx => hx.2.2) 0
    have D5 : Pk G w5 B l t (s.unwant r.page) := (Hp.out.all (Fr.refl All W4).drew).stays f5 Hp.out.n2 ((Hp.out.all (Fr.refl All W4).drew).hv.move f5 Hp.out.n3 fun x hx _ => hx.1.2.2) m5
    have HH := Lib.hid D5
    have tl := H0.out.tv.lt
    have BX := (f5.block X (blk_lt B5) (show X ≠ t by omega)).trans B5
    have BR := (f5.block w.heap.size (blk_lt BB5) (show w.heap.size ≠ t by omega)).trans BB5
    have F5 := Lib.hid f5
    have FT : Fr (fun x => x ≠ t) w w5 := (FF4.drew.mono fun _ _ => trivial).trans f5
    have HK0 : Hid (Sl kByte All w5 (.slice A0 n0 c0) r.key) := Lib.hid ((HK0'.out.move' FT hS0).mono fun _ _ _ => trivial)
    have HK1 : Hid (Sl kByte All w5 (.slice A1 n1 c1) r.val) := Lib.hid ((HK1'.out.move' FT hS1).mono fun _ _ _ => trivial)
    clear m5 D5 f5 B5 BB5
    go_region
    clear p0 p1 p2 p3 p4 p5 p6 p7 p8 p9 pz q1 hr5
    obtain ⟨W1, hW1⟩ : ∃ W1, W1 = w5 := ⟨_, rfl⟩
    subst hW1
    obtain ⟨p, hp⟩ : ∃ p : Page, p = ⟨r.page, 0, 0, -1, []⟩ := ⟨_, rfl⟩
    obtain ⟨pn, hpn⟩ : ∃ pn : Nat, pn = 0 := ⟨_, rfl⟩
    have BX2 : W1.heap[X]? = some (.cells #[.int .i64 p.id, .int .i64 p.lsn, .int .i64 p.level, .int .i64 p.next, .slice PA pn pc] 30 (0, 0)) := by
      rw [hp, hpn]
      exact BX
    have HP : Hid (Sl kEnt All W1 (.slice PA pn pc) p.ents) := Lib.hid (by
      rw [hp, hpn]
      exact Sl.empty_ _ _ _ _ _ hpc)
    have ok : EntsOk p.ents := by
      rw [hp]
      exact ⟨by simp, by simp⟩
    have Hpp := Lib.hid hp
    obtain ⟨x0, x1, x2, x3, x4, xz⟩ := blk5 BX2
    obtain ⟨p0, p1, p2, p3, p4, p5, p6, p7, p8, p9, pz⟩ := blk10 BR
    have q0 := HH.out.c0
    clear BX BX2 BR hp hpn
    go_upto_region 7 with (fail)
    refine wp_region_last (S := fun w' => w'.cell? ⟨B, 0, none⟩ = some (.map (some l)) ∧ w'.cell? ⟨w.heap.size, 0, none⟩ = some (.int .i64 r.lsn) ∧ w'.cell? ⟨w.heap.size, 1, none⟩ = some (.int .i64 r.back) ∧ w'.cell? ⟨w.heap.size, 2, none⟩ = some (.int .i64 r.epoch) ∧ w'.cell? ⟨w.heap.size, 3, none⟩ = some (.int .i64 r.group) ∧ w'.cell? ⟨w.heap.size, 4, none⟩ = some (.int .i64 r.page) ∧ w'.cell? ⟨w.heap.size, 5, none⟩ = some (.int .i64 r.kind) ∧ w'.cell? ⟨w.heap.size, 6, none⟩ = some (.int .i64 r.slot) ∧ w'.cell? ⟨w.heap.size, 7, none⟩ = some (.slice A0 n0 c0) ∧ w'.cell? ⟨w.heap.size, 8, none⟩ = some (.slice A1 n1 c1) ∧ w'.cell? ⟨w.heap.size, 9, none⟩ = some (.bool r.last) ∧ w'.cell? ⟨X, 0, none⟩ = some (.int .i64 p.id) ∧ w'.cell? ⟨X, 1, none⟩ = some (.int .i64 p.lsn) ∧ w'.cell? ⟨X, 2, none⟩ = some (.int .i64 p.level) ∧ w'.cell? ⟨X, 3, none⟩ = some (.int .i64 p.next) ∧ w'.cell? ⟨X, 4, none⟩ = some (.slice PA pn pc)) 9 (by kernel_rfl) rfl (by kernel_rfl) ⟨q0, p0, p1, p2, p3, p4, p5, p6, p7, p8, p9, x0, x1, x2, x3, x4⟩ (fun hHeld => ?_)
    simp only [List.take_succ_cons, List.take_zero]
    refine wpAnyH_take (i := 0) (v := ?_) rfl (by kernel_rfl) (by kernel_rfl) (by kernel_rfl) (fun _ _ _ h => h) (Or.inl ⟨by rfl, ?_⟩) (by assumption) ?_
    rotate_left
    · (intro w hSw; (try dsimp only at hSw); go_simp; try with_reducible rfl)
    try simp only [Act.put]
    try simp only [List.setIfInBounds_toArray]
    try simp only [List.set_cons_succ]
    try simp only [List.set_cons_zero]
    refine wpAnyH_take (i := 1) (v := ?_) rfl (by kernel_rfl) (by kernel_rfl) (by kernel_rfl) (fun _ _ _ h => h) (Or.inl ⟨by rfl, ?_⟩) (by assumption) ?_
    rotate_left
    · (intro w hSw; (try dsimp only at hSw); go_simp; try with_reducible rfl)
    try simp only [Act.put]
    try simp only [List.setIfInBounds_toArray]
    try simp only [List.set_cons_succ]
    try simp only [List.set_cons_zero]
    refine wpAnyH_take (i := 2) (v := ?_) rfl (by kernel_rfl) (by kernel_rfl) (by kernel_rfl) (fun _ _ _ h => h) (Or.inl ⟨by rfl, ?_⟩) (by assumption) ?_
    rotate_left
    · (intro w hSw; (try dsimp only at hSw); go_simp; try with_reducible rfl)
    try simp only [Act.put]
    try simp only [List.setIfInBounds_toArray]
    try simp only [List.set_cons_succ]
    try simp only [List.set_cons_zero]
    refine wpAnyH_take (i := 3) (v := ?_) rfl (by kernel_rfl) (by kernel_rfl) (by kernel_rfl) (fun _ _ _ h => h) (Or.inl ⟨by rfl, ?_⟩) (by assumption) ?_
    rotate_left
    · (intro w hSw; (try dsimp only at hSw); go_simp; try with_reducible rfl)
    try simp only [Act.put]
    try simp only [List.setIfInBounds_toArray]
    try simp only [List.set_cons_succ]
    try simp only [List.set_cons_zero]
    refine wpAnyH_take (i := 4) (v := ?_) rfl (by kernel_rfl) (by kernel_rfl) (by kernel_rfl) (fun _ _ _ h => h) (Or.inl ⟨by rfl, ?_⟩) (by assumption) ?_
    rotate_left
    · (intro w hSw; (try dsimp only at hSw); go_simp; try with_reducible rfl)
    try simp only [Act.put]
    try simp only [List.setIfInBounds_toArray]
    try simp only [List.set_cons_succ]
    try simp only [List.set_cons_zero]
    refine wpAnyH_take (i := 5) (v := ?_) rfl (by kernel_rfl) (by kernel_rfl) (by kernel_rfl) (fun _ _ _ h => h) (Or.inl ⟨by rfl, ?_⟩) (by assumption) ?_
    rotate_left
    · (intro w hSw; (try dsimp only at hSw); go_simp; try with_reducible rfl)
    try simp only [Act.put]
    try simp only [List.setIfInBounds_toArray]
    try simp only [List.set_cons_succ]
    try simp only [List.set_cons_zero]
    refine wpAnyH_take (i := 6) (v := ?_) rfl (by kernel_rfl) (by kernel_rfl) (by kernel_rfl) (fun _ _ _ h => h) (Or.inl ⟨by rfl, ?_⟩) (by assumption) ?_
    rotate_left
    · (intro w hSw; (try dsimp only at hSw); go_simp; try with_reducible rfl)
    try simp only [Act.put]
    try simp only [List.setIfInBounds_toArray]
    try simp only [List.set_cons_succ]
    try simp only [List.set_cons_zero]
    refine wpAnyH_take (i := 7) (v := ?_) rfl (by kernel_rfl) (by kernel_rfl) (by kernel_rfl) (fun _ _ _ h => h) (Or.inl ⟨by rfl, ?_⟩) (by assumption) ?_
    rotate_left
    · (intro w hSw; (try dsimp only at hSw); go_simp; try with_reducible rfl)
    try simp only [Act.put]
    try simp only [List.setIfInBounds_toArray]
    try simp only [List.set_cons_succ]
    try simp only [List.set_cons_zero]
    refine wpAnyH_ready (rs := [8]) (by kernel_rfl) (by simp) (AllReadyH.cons rfl (fun K hK => ?_) AllReadyH.nil)
    go_simp
    refine (page_apply (p := p) (r := r) (HP.out.all (Fr.refl All W1).drew) ok (HK0.out.all (Fr.refl All W1).drew) (HK1.out.all (Fr.refl All W1).drew) hl0 hl1 hsl).mono ?_
    rintro e w7 ⟨PA7, pc7, rfl, o7, f7⟩
    go_simp
    have F7 : Fr All W1 w7 := (Fr.refl All W1).drew.then_all f7
    refine hK.out _ _ ⟨F7.cell trivial q0, F7.cell trivial p0, F7.cell trivial p1, F7.cell trivial p2, F7.cell trivial p3, F7.cell trivial p4, F7.cell trivial p5, F7.cell trivial p6, F7.cell trivial p7, F7.cell trivial p8, F7.cell trivial p9, F7.cell trivial x0, F7.cell trivial x1, F7.cell trivial x2, F7.cell trivial x3, F7.cell trivial x4⟩ (fun hHeld => ?_)
    clear hK K
    try simp only [Act.put]
    try simp only [List.setIfInBounds_toArray]
    try simp only [List.set_cons_succ]
    try simp only [List.set_cons_zero]
    obtain ⟨q, hq⟩ : ∃ q, papply p r = q := ⟨_, rfl⟩
    rw [hq] at o7 ⊢
    have HQ := Lib.hid hq
    have g0 := HH.out.lt
    have g1 := HH.out.hv.lt
    have g2 := HH.out.tv.lt
    have e7 : W1.drew.heap.size = W1.heap.size := rfl
    have hsq : Sl kEnt (OffG G B l t) w7 (.slice PA7 q.ents.length pc7) q.ents := o7.sl_in (fun b hb _ => by unfold From at hb; exact ⟨⟨by omega, by omega, by omega⟩, fun hG => by have := HH.out.gg b hG; omega⟩) (fun b hb _ => ⟨⟨by omega, by omega, by omega⟩, fun hG => by have := HH.out.gg b hG; omega⟩)
    obtain ⟨w8, hr8, m8, f8⟩ := (HH.out.all F7).hv.put Tryd.underlying3 Tryd.underlying60 (k := r.page) hi hnn (v := .agg #[.int .i64 q.id, .int .i64 q.lsn, .int .i64 q.level, .int .i64 q.next, .slice PA7 q.ents.length pc7]) (x := q) ⟨PA7, pc7, rfl, hsq⟩ (fun x hx => hx.1.2.1)
    have D8 : Pk G w8 B l t ((s.unwant r.page).has r.page q) := (HH.out.all F7).stays f8 HH.out.n1 m8 ((HH.out.all F7).tv.free.move f8 (Ne.symm HH.out.n3) (fun x (hx : Nowhere x) _ => hx.elim)).free
    have H8 := Lib.hid D8
    clear m8 D8 hsq o7 hHeld q0 p0 p1 p2 p3 p4 p5 p6 p7 p8 p9 x0 x1 x2 x3 x4 hq
    refine wpAnyH_done (by kernel_rfl) ?_ _
    show wpList _ _ _ _ _ _
    go_wp2_with fail
    go_ret
    rw [← Hpp.out, HQ.out]
    exact ⟨rfl, H8.out, ((FT.mono fun x (hx : Off B l t x) => hx.2.2).trans (F7.mono fun _ _ => trivial)).trans (f8.mono fun x (hx : Off B l t x) => hx.2.1)⟩)
end Go.Proofs.YtppjpfgjophgkaaDoor
