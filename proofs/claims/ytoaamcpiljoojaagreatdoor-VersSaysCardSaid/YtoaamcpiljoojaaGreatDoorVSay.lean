/- vers.At of what is out of range; an Add of any right record to a log without spans. VersSays walked. -/
import Derived.Test.YtoaamcpiljoojaaGreatDoorVAt
import Derived.Test.YtoaamcpiljoojaaGreatDoorHHe
import Derived.Test.YtoaamcpiljoojaaGreatDoorHAdd4
import Derived.Test.YtoaamcpiljoojaaGreatDoorRefD
import Derived.Test.YtoaamcpiljoojaaGreatDoorRefI
import Derived.Test.YtoaamcpiljoojaaGreatDoorVBase
import Derived.Test.YtoaamcpiljoojaaGreatDoorSameI
namespace Go.Proofs.YtoaamcpiljoojaaGreatDoor
open Go.RowKit

set_option hygiene false in
set_option maxRecDepth 100000 in
set_option maxHeartbeats 2000000 in
theorem at_range {qs : List Addr} {w : World} (hq : Errs w qs) (v : Value) {id y : Int} (hno : ¬ (0 ≤ id ∧ id < 256 ∧ 0 ≤ y ∧ y ≤ 1099511627776)) :
    Calls Tryz.prog 31 #[v, .int .i64 id, .int .i64 y] w fun e w' => ∃ a, qs[4]? = some a ∧ e = .returned (.tuple #[.agg #[.int .i64 0, .int .i64 0, .int .i64 0, .int .i64 0, .slice none 0 0], errV a]) ∧ Fr All w w' := by
  obtain ⟨a, ha, hcell⟩ := hq.at 4 "sextet/api.ErrRange" 3 rfl (by kernel_rfl)
  have F0 := (Fr.refl All w).alloc (.cells #[.int .i64 0, .int .i64 0, .int .i64 0, .int .i64 0, .slice none 0 0] 67)
  have P0 := heap_alloc_new w (.cells #[.int .i64 0, .int .i64 0, .int .i64 0, .int .i64 0, .slice none 0 0] 67)
  obtain ⟨p0, p1, p2, p3, p4, pz⟩ := blk5 P0
  have hc := F0.cell trivial hcell
  have hG : 3 < w.heap.size := World.block_lt_of_cell? w ⟨3, 0, none⟩ hcell
  have HF0 := Lib.hid F0
  have HN := Lib.hid hno
  clear P0 F0 hcell hno
  go_enter Tryz.func31, Tryz.ntmps31
  cases h1 : decide (id < 0) with
  | true =>
    go_upto_region 2 with (fail)
    refine wp_region_all (S := fun w' => w'.cell? ⟨3, 0, none⟩ = some (errV a)) (by kernel_rfl) hc (fun hHeld => ?_)
    refine wpAnyH_take (i := 0) (v := ?_) rfl (by kernel_rfl) (by kernel_rfl) (by kernel_rfl) (fun _ _ _ h => h) (Or.inl ⟨by rfl, ?_⟩) (by assumption) ?_
    rotate_left
    · (intro w hSw; (try dsimp only at hSw); go_simp; try with_reducible rfl)
    try simp only [Act.put]
    try simp only [List.setIfInBounds_toArray]
    try simp only [List.set_cons_succ]
    try simp only [List.set_cons_zero]
    refine wpAnyH_take (i := 1) (v := ?_) rfl (by kernel_rfl) (by kernel_rfl) (by kernel_rfl) (fun _ _ _ h => h) (Or.inl ⟨by rfl, ?_⟩) (by assumption) ?_
    rotate_left
    · (intro w hSw; (try dsimp only at hSw); go_simp; try with_reducible rfl)
    try simp only [Act.put]
    try simp only [List.setIfInBounds_toArray]
    try simp only [List.set_cons_succ]
    try simp only [List.set_cons_zero]
    refine wpAnyH_ready (rs := [2]) (by kernel_rfl) (by simp) (AllReadyH.cons rfl (fun K hK => ?_) AllReadyH.nil)
    go_simp
    refine hK.out _ _ ?_ (fun hHeld => ?_)
    · exact Fr.cell (S := fun b => b ≠ w.heap.size) (by
        repeat (first | (with_reducible exact Fr.refl _ _) | with_reducible refine Fr.drew ?_ | with_reducible refine Fr.setCell ?_ (fun m hm => by exact hm) _)) (by dsimp only; omega) hc
    clear hK K
    try simp only [Act.put]
    try simp only [List.setIfInBounds_toArray]
    try simp only [List.set_cons_succ]
    try simp only [List.set_cons_zero]
    refine wpAnyH_take (i := 3) (v := ?_) rfl (by kernel_rfl) (by kernel_rfl) (by kernel_rfl) (fun _ _ _ h => h) (Or.inl ⟨by rfl, ?_⟩) (by assumption) ?_
    rotate_left
    · (intro w hSw; (try dsimp only at hSw); go_simp; try with_reducible rfl)
    try simp only [Act.put]
    try simp only [List.setIfInBounds_toArray]
    try simp only [List.set_cons_succ]
    try simp only [List.set_cons_zero]
    try simp only [List.getElem_toArray, List.getElem_cons_succ, List.getElem_cons_zero, List.set_cons_succ, List.set_cons_zero]
    refine wpAnyH_done (by kernel_rfl) ?_ _
    go_wp2_with fail
    refine bodyPost_ret (v := .tuple #[.agg #[.int .i64 0, .int .i64 0, .int .i64 0, .int .i64 0, .slice none 0 0], errV a]) ?_ rfl ⟨a, ha, rfl, ?_⟩
    · simp [results, Tryz.results31, go_sem, p0, p1, p2, p3, p4, errV]
    · repeat (first | (with_reducible exact HF0.out) | with_reducible refine Fr.drew ?_ | with_reducible refine Fr.setNew ?_ (by dsimp only; omega) _)
  | false =>
    cases h2 : decide (id ≥ 256) with
    | true =>
      go_upto_region 2 with (fail)
      refine wp_region_all (S := fun w' => w'.cell? ⟨3, 0, none⟩ = some (errV a)) (by kernel_rfl) hc (fun hHeld => ?_)
      refine wpAnyH_take (i := 0) (v := ?_) rfl (by kernel_rfl) (by kernel_rfl) (by kernel_rfl) (fun _ _ _ h => h) (Or.inl ⟨by rfl, ?_⟩) (by assumption) ?_
      rotate_left
      · (intro w hSw; (try dsimp only at hSw); go_simp; try with_reducible rfl)
      try simp only [Act.put]
      try simp only [List.setIfInBounds_toArray]
      try simp only [List.set_cons_succ]
      try simp only [List.set_cons_zero]
      refine wpAnyH_take (i := 1) (v := ?_) rfl (by kernel_rfl) (by kernel_rfl) (by kernel_rfl) (fun _ _ _ h => h) (Or.inl ⟨by rfl, ?_⟩) (by assumption) ?_
      rotate_left
      · (intro w hSw; (try dsimp only at hSw); go_simp; try with_reducible rfl)
      try simp only [Act.put]
      try simp only [List.setIfInBounds_toArray]
      try simp only [List.set_cons_succ]
      try simp only [List.set_cons_zero]
      refine wpAnyH_ready (rs := [2]) (by kernel_rfl) (by simp) (AllReadyH.cons rfl (fun K hK => ?_) AllReadyH.nil)
      go_simp
      refine hK.out _ _ ?_ (fun hHeld => ?_)
      · exact Fr.cell (S := fun b => b ≠ w.heap.size) (by
          repeat (first | (with_reducible exact Fr.refl _ _) | with_reducible refine Fr.drew ?_ | with_reducible refine Fr.setCell ?_ (fun m hm => by exact hm) _)) (by dsimp only; omega) hc
      clear hK K
      try simp only [Act.put]
      try simp only [List.setIfInBounds_toArray]
      try simp only [List.set_cons_succ]
      try simp only [List.set_cons_zero]
      refine wpAnyH_take (i := 3) (v := ?_) rfl (by kernel_rfl) (by kernel_rfl) (by kernel_rfl) (fun _ _ _ h => h) (Or.inl ⟨by rfl, ?_⟩) (by assumption) ?_
      rotate_left
      · (intro w hSw; (try dsimp only at hSw); go_simp; try with_reducible rfl)
      try simp only [Act.put]
      try simp only [List.setIfInBounds_toArray]
      try simp only [List.set_cons_succ]
      try simp only [List.set_cons_zero]
      try simp only [List.getElem_toArray, List.getElem_cons_succ, List.getElem_cons_zero, List.set_cons_succ, List.set_cons_zero]
      refine wpAnyH_done (by kernel_rfl) ?_ _
      go_wp2_with fail
      refine bodyPost_ret (v := .tuple #[.agg #[.int .i64 0, .int .i64 0, .int .i64 0, .int .i64 0, .slice none 0 0], errV a]) ?_ rfl ⟨a, ha, rfl, ?_⟩
      · simp [results, Tryz.results31, go_sem, p0, p1, p2, p3, p4, errV]
      · repeat (first | (with_reducible exact HF0.out) | with_reducible refine Fr.drew ?_ | with_reducible refine Fr.setNew ?_ (by dsimp only; omega) _)
    | false =>
      cases h3 : decide (y < 0) with
      | true =>
        go_upto_region 2 with (fail)
        refine wp_region_all (S := fun w' => w'.cell? ⟨3, 0, none⟩ = some (errV a)) (by kernel_rfl) hc (fun hHeld => ?_)
        refine wpAnyH_take (i := 0) (v := ?_) rfl (by kernel_rfl) (by kernel_rfl) (by kernel_rfl) (fun _ _ _ h => h) (Or.inl ⟨by rfl, ?_⟩) (by assumption) ?_
        rotate_left
        · (intro w hSw; (try dsimp only at hSw); go_simp; try with_reducible rfl)
        try simp only [Act.put]
        try simp only [List.setIfInBounds_toArray]
        try simp only [List.set_cons_succ]
        try simp only [List.set_cons_zero]
        refine wpAnyH_take (i := 1) (v := ?_) rfl (by kernel_rfl) (by kernel_rfl) (by kernel_rfl) (fun _ _ _ h => h) (Or.inl ⟨by rfl, ?_⟩) (by assumption) ?_
        rotate_left
        · (intro w hSw; (try dsimp only at hSw); go_simp; try with_reducible rfl)
        try simp only [Act.put]
        try simp only [List.setIfInBounds_toArray]
        try simp only [List.set_cons_succ]
        try simp only [List.set_cons_zero]
        refine wpAnyH_ready (rs := [2]) (by kernel_rfl) (by simp) (AllReadyH.cons rfl (fun K hK => ?_) AllReadyH.nil)
        go_simp
        refine hK.out _ _ ?_ (fun hHeld => ?_)
        · exact Fr.cell (S := fun b => b ≠ w.heap.size) (by
            repeat (first | (with_reducible exact Fr.refl _ _) | with_reducible refine Fr.drew ?_ | with_reducible refine Fr.setCell ?_ (fun m hm => by exact hm) _)) (by dsimp only; omega) hc
        clear hK K
        try simp only [Act.put]
        try simp only [List.setIfInBounds_toArray]
        try simp only [List.set_cons_succ]
        try simp only [List.set_cons_zero]
        refine wpAnyH_take (i := 3) (v := ?_) rfl (by kernel_rfl) (by kernel_rfl) (by kernel_rfl) (fun _ _ _ h => h) (Or.inl ⟨by rfl, ?_⟩) (by assumption) ?_
        rotate_left
        · (intro w hSw; (try dsimp only at hSw); go_simp; try with_reducible rfl)
        try simp only [Act.put]
        try simp only [List.setIfInBounds_toArray]
        try simp only [List.set_cons_succ]
        try simp only [List.set_cons_zero]
        try simp only [List.getElem_toArray, List.getElem_cons_succ, List.getElem_cons_zero, List.set_cons_succ, List.set_cons_zero]
        refine wpAnyH_done (by kernel_rfl) ?_ _
        go_wp2_with fail
        refine bodyPost_ret (v := .tuple #[.agg #[.int .i64 0, .int .i64 0, .int .i64 0, .int .i64 0, .slice none 0 0], errV a]) ?_ rfl ⟨a, ha, rfl, ?_⟩
        · simp [results, Tryz.results31, go_sem, p0, p1, p2, p3, p4, errV]
        · repeat (first | (with_reducible exact HF0.out) | with_reducible refine Fr.drew ?_ | with_reducible refine Fr.setNew ?_ (by dsimp only; omega) _)
      | false =>
        have h4 : decide (y > 1099511627776) = true := decide_eq_true (by
          have h1 := of_decide_eq_false h1
          have h2 := of_decide_eq_false h2
          have h3 := of_decide_eq_false h3
          have h5 := HN.out
          omega)
        go_upto_region 2 with (fail)
        refine wp_region_all (S := fun w' => w'.cell? ⟨3, 0, none⟩ = some (errV a)) (by kernel_rfl) hc (fun hHeld => ?_)
        refine wpAnyH_take (i := 0) (v := ?_) rfl (by kernel_rfl) (by kernel_rfl) (by kernel_rfl) (fun _ _ _ h => h) (Or.inl ⟨by rfl, ?_⟩) (by assumption) ?_
        rotate_left
        · (intro w hSw; (try dsimp only at hSw); go_simp; try with_reducible rfl)
        try simp only [Act.put]
        try simp only [List.setIfInBounds_toArray]
        try simp only [List.set_cons_succ]
        try simp only [List.set_cons_zero]
        refine wpAnyH_take (i := 1) (v := ?_) rfl (by kernel_rfl) (by kernel_rfl) (by kernel_rfl) (fun _ _ _ h => h) (Or.inl ⟨by rfl, ?_⟩) (by assumption) ?_
        rotate_left
        · (intro w hSw; (try dsimp only at hSw); go_simp; try with_reducible rfl)
        try simp only [Act.put]
        try simp only [List.setIfInBounds_toArray]
        try simp only [List.set_cons_succ]
        try simp only [List.set_cons_zero]
        refine wpAnyH_ready (rs := [2]) (by kernel_rfl) (by simp) (AllReadyH.cons rfl (fun K hK => ?_) AllReadyH.nil)
        go_simp
        refine hK.out _ _ ?_ (fun hHeld => ?_)
        · exact Fr.cell (S := fun b => b ≠ w.heap.size) (by
            repeat (first | (with_reducible exact Fr.refl _ _) | with_reducible refine Fr.drew ?_ | with_reducible refine Fr.setCell ?_ (fun m hm => by exact hm) _)) (by dsimp only; omega) hc
        clear hK K
        try simp only [Act.put]
        try simp only [List.setIfInBounds_toArray]
        try simp only [List.set_cons_succ]
        try simp only [List.set_cons_zero]
        refine wpAnyH_take (i := 3) (v := ?_) rfl (by kernel_rfl) (by kernel_rfl) (by kernel_rfl) (fun _ _ _ h => h) (Or.inl ⟨by rfl, ?_⟩) (by assumption) ?_
        rotate_left
        · (intro w hSw; (try dsimp only at hSw); go_simp; try with_reducible rfl)
        try simp only [Act.put]
        try simp only [List.setIfInBounds_toArray]
        try simp only [List.set_cons_succ]
        try simp only [List.set_cons_zero]
        try simp only [List.getElem_toArray, List.getElem_cons_succ, List.getElem_cons_zero, List.set_cons_succ, List.set_cons_zero]
        refine wpAnyH_done (by kernel_rfl) ?_ _
        go_wp2_with fail
        refine bodyPost_ret (v := .tuple #[.agg #[.int .i64 0, .int .i64 0, .int .i64 0, .int .i64 0, .slice none 0 0], errV a]) ?_ rfl ⟨a, ha, rfl, ?_⟩
        · simp [results, Tryz.results31, go_sem, p0, p1, p2, p3, p4, errV]
        · repeat (first | (with_reducible exact HF0.out) | with_reducible refine Fr.drew ?_ | with_reducible refine Fr.setNew ?_ (by dsimp only; omega) _)
/-- What an Add of a right record to a log without spans makes of it: as the document's list. -/
theorem addAny {qs : List Addr} {X : Nat → Prop} {w0 w : World} {B : Nat} {s : HSt} (hE : Errs w qs) (h : HHe X w0 w B s) {r : Redo} {v0 v1 : Value} {S0 S1 : Nat → Prop} (k0 : Sl kByte S0 w v0 r.key) (k1 : Sl kByte S1 w v1 r.val) (hv : validIx r = none) (hs : s.spans = []) (hf : s.l.length < 16384) :
    Calls Tryz.prog 10 #[.pointer (some ⟨B, 0, none⟩), .agg #[.int .i64 r.lsn, .int .i64 r.back, .int .i64 r.epoch, .int .i64 r.group, .int .i64 r.page, .int .i64 r.kind, .int .i64 r.slot, v0, v1, .bool r.last]] w
      fun e w' => ∃ (a b : Value) (s' : HSt), e = .returned (.tuple #[a, b]) ∧ HHe X w0 w' B s' ∧ s'.l = xl s.group s.l r ∧ s'.spans = [] ∧ s'.group = s.group ∧ Fr X w w' := by
  have hd : deadS s.spans r.lsn r.epoch = false := by rw [hs]; rfl
  by_cases hg : r.group = s.group
  · cases hn : isL s.l r.lsn with
    | false =>
      refine (headd h k0 k1 hv hg hd hn hf).mono ?_
      rintro e w' ⟨rfl, h1, h2⟩
      exact ⟨_, _, _, rfl, h1, by unfold xl; rw [if_pos ⟨hg, hn⟩]; rfl, hs, rfl, h2⟩
    | true =>
      have hxl : s.l = xl s.group s.l r := by unfold xl; rw [if_neg (fun e => by rw [e.2] at hn; cases hn)]
      obtain ⟨lv, sv, h1, _⟩ := h.ex
      obtain ⟨x, hx, hxl2⟩ := isL_mem.1 hn
      by_cases hxr : x = r
      · subst hxr
        refine (add_same h1 k0 k1 hv hg hd hx).mono ?_
        rintro e w' ⟨rfl, f⟩
        exact ⟨_, _, _, rfl, h.all f, hxl, hs, rfl, f.mono fun _ _ => trivial⟩
      · refine (add_there hE h1 k0 k1 hv hg hd ⟨x, hx, hxl2, hxr⟩).mono ?_
        rintro e w' ⟨a, _, rfl, f⟩
        exact ⟨_, _, _, rfl, h.all f, hxl, hs, rfl, f.mono fun _ _ => trivial⟩
  · obtain ⟨lv, sv, h1, _⟩ := h.ex
    refine (add_shape hE h1 k0 k1 hv hg).mono ?_
    rintro e w' ⟨a, _, rfl, f⟩
    exact ⟨_, _, _, rfl, h.all f, by unfold xl; rw [if_neg (fun e => hg e.1)], hs, rfl, f.mono fun _ _ => trivial⟩
end Go.Proofs.YtoaamcpiljoojaaGreatDoor
namespace Go.Proofs.YtoaamcpiljoojaaGreatDoor
open Go.RowKit

def pageZ : Page := ⟨0, 0, 0, 0, []⟩
/-- A page as it was, and why not, of a log's records. -/
def docAt (l : List Redo) (id y : Int) : Page × Int := if 0 ≤ id ∧ id < 256 ∧ 0 ≤ y ∧ y ≤ 1099511627776 then (if ofL l id y = [] then (pageZ, 107) else (pall (page0 id) (ofL l id y), 0)) else (pageZ, 105)
theorem docAt_small {l : List Redo} (h : RightL l) (id y : Int) : SmallP (docAt l id y).1 := by
  have hz : SmallP pageZ := ⟨Nat.zero_le _, fun e he => by cases he⟩
  unfold docAt
  split
  · split
    · exact hz
    · exact pall_smallL fun r hr => h r (ofL_mem.1 hr).1
  · exact hz
theorem vat {qs : List Addr} {S : Nat → Prop} {w : World} {B : Nat} {lv sv : Value} {s : HSt} (hq : Errs w qs) (h : Hg S w B lv sv s) (id y : Int) :
    Calls Tryz.prog 31 #[.pointer (some ⟨B, 0, none⟩), .int .i64 id, .int .i64 y] w fun e w' => ∃ (A : Option Addr) (n c : Nat) (ev : Value), e = .returned (.tuple #[.agg #[.int .i64 (docAt s.l id y).1.id, .int .i64 (docAt s.l id y).1.lsn, .int .i64 (docAt s.l id y).1.level, .int .i64 (docAt s.l id y).1.next, .slice A n c], ev]) ∧ Sl kEnt All w' (.slice A n c) (docAt s.l id y).1.ents ∧ Sees w' ev (docAt s.l id y).2 false 0 ∧ Fr All w w' := by
  by_cases hr : 0 ≤ id ∧ id < 256 ∧ 0 ≤ y ∧ y ≤ 1099511627776
  · by_cases hn : ofL s.l id y = []
    · have hd : docAt s.l id y = (pageZ, 107) := by unfold docAt; rw [if_pos hr, if_pos hn]
      rw [hd]
      refine (at_none hq h hr.1 hr.2.1 hr.2.2.1 hr.2.2.2 hn).mono ?_
      rintro e w' ⟨a, ha, rfl, f⟩
      exact ⟨none, 0, 0, errV a, rfl, Sl.nil_ _ _ _, Sees.bare (hq.move f) ha, f⟩
    · have hd : docAt s.l id y = (pall (page0 id) (ofL s.l id y), 0) := by unfold docAt; rw [if_pos hr, if_neg hn]
      rw [hd]
      refine (at_call h hr.1 hr.2.1 hr.2.2.1 hr.2.2.2 hn).mono ?_
      rintro e w' ⟨q, A, c, hq', rfl, s1, f⟩
      subst hq'
      exact ⟨A, _, c, .nilIface, rfl, s1, Sees.nil_ _, f⟩
  · have hd : docAt s.l id y = (pageZ, 105) := by unfold docAt; rw [if_neg hr]
    rw [hd]
    refine (at_range hq _ hr).mono ?_
    rintro e w' ⟨a, ha, rfl, f⟩
    exact ⟨none, 0, 0, errV a, rfl, Sl.nil_ _ _ _, Sees.bare (hq.move f) ha, f⟩
theorem xat {S : Nat → Prop} {w : World} {B : Nat} {g : Int} {lv : Value} {l : List Redo} (h : Xg S w B g lv l) (hr : RightL l) (hl : l.length ≤ 1000000) (id y : Int) :
    Calls Tryz.prog 32 #[.pointer (some ⟨B, 0, none⟩), .int .i64 id, .int .i64 y] w fun e w' => ∃ (A : Option Addr) (n c : Nat), e = .returned (.tuple #[.agg #[.int .i64 (docAt l id y).1.id, .int .i64 (docAt l id y).1.lsn, .int .i64 (docAt l id y).1.level, .int .i64 (docAt l id y).1.next, .slice A n c], .int .i64 (docAt l id y).2]) ∧ Sl kEnt All w' (.slice A n c) (docAt l id y).1.ents ∧ Fr All w w' := by
  by_cases hi : 0 ≤ id ∧ id < 256 ∧ 0 ≤ y ∧ y ≤ 1099511627776
  · refine (ref_pageat h hr hl hi.1 hi.2.1 hi.2.2.1 hi.2.2.2).mono ?_
    rintro e w' ⟨A, c, hc | hc, s1, f⟩
    · obtain ⟨hn, rfl⟩ := hc
      have hd : docAt l id y = (pageZ, 107) := by unfold docAt; rw [if_pos hi, if_pos hn]
      rw [hd]
      exact ⟨none, 0, 0, rfl, Sl.nil_ _ _ _, f⟩
    · obtain ⟨hn, rfl⟩ := hc
      have hd : docAt l id y = (pall (page0 id) (ofL l id y), 0) := by unfold docAt; rw [if_pos hi, if_neg hn]
      rw [hd]
      exact ⟨A, _, c, rfl, s1, f⟩
  · have hd : docAt l id y = (pageZ, 105) := by unfold docAt; rw [if_neg hi]
    rw [hd]
    refine (ref_pageat_no h hi).mono ?_
    rintro e w' ⟨rfl, f⟩
    exact ⟨none, 0, 0, rfl, Sl.nil_ _ _ _, f⟩
/-- What turns are guarded blocks alone, new ones with them. -/
theorem HHe.grow {X : Nat → Prop} {w0 w w' : World} {B : Nat} {s : HSt} (h : HHe X w0 w B s) (f : Fr (fun b => ¬ X b) w w') (hX : ∀ b, X b → w0.heap.size ≤ b) : HHe (fun b => X b ∨ w.heap.size ≤ b ∧ b < w'.heap.size) w0 w' B s := by
  obtain ⟨lv, sv, h1, h2⟩ := h.ex
  have hl := h1.lt
  have h3 := h1.mono (T := fun b => b ≠ B ∧ ¬ (X b ∨ w.heap.size ≤ b ∧ b < w'.heap.size)) (fun b hb hlt => ⟨hb.1, fun hh => hh.elim hb.2 fun hh => by omega⟩) (fun b hb => hb.1)
  refine ⟨⟨lv, sv, h3.move f h.xB (fun k hk => (h2 k hk).2) (fun b hb _ hx => hb.2 (.inl hx)), fun k hk => ⟨(h2 k hk).1, fun hh => by
    rcases hh with hh | hh
    · exact (h2 k hk).2 hh
    · have := (own_lt h1.row k hk).2
      omega⟩⟩, h.b0, fun hh => hh.elim h.xB fun hh => by omega, fun b hb => hb.elim (fun hb => Nat.lt_of_lt_of_le (h.xl b hb) f.size) fun hb => hb.2, fr_past h.fr f fun x hx => fun hxx => by have := hX x hxx; omega⟩
/-- The log and the document's log, side by side. -/
structure Both (w1 w : World) (B Bx : Nat) (s : HSt) : Prop where
  ex : ∃ (X S : Nat → Prop) (lv : Value), HHe X w1 w B s ∧ Xg S w Bx 0 lv s.l ∧ X Bx ∧ (∀ b, S b → X b) ∧ ∀ b, X b → w1.heap.size ≤ b
  sp : s.spans = []
  gr : s.group = 0
theorem Both.all {w1 w w' : World} {B Bx : Nat} {s : HSt} (h : Both w1 w B Bx s) (f : Fr All w w') : Both w1 w' B Bx s := by
  obtain ⟨X, S, lv, h1, h2, h3⟩ := h.ex
  exact ⟨⟨X, S, lv, h1.all f, h2.all f, h3⟩, h.sp, h.gr⟩
theorem Both.fr {w1 w : World} {B Bx : Nat} {s : HSt} (h : Both w1 w B Bx s) : Fr All w1 w := by
  obtain ⟨X, S, lv, h1, _⟩ := h.ex
  exact h1.fr
theorem Both.ok {w1 w : World} {B Bx : Nat} {s : HSt} (h : Both w1 w B Bx s) : HOk s := by
  obtain ⟨X, S, lv, h1, _⟩ := h.ex
  obtain ⟨_, _, h2, _⟩ := h1.ex
  exact h2.ok
theorem validIx_ok {r : Redo} (h : validIx r = none) : r.key.length ≤ 1000000 ∧ r.val.length ≤ 1000000 := by
  have := (validIx_none h).2.2.2.2.2.2.2.2.2.2.2.2.2.2
  omega
/-- A record told to the log: the document's log has it to come. -/
theorem both_add {qs : List Addr} {w1 w : World} {B Bx : Nat} {s : HSt} (hE : Errs w qs) (h : Both w1 w B Bx s) {r : Redo} {v0 v1 : Value} {S0 S1 : Nat → Prop} (k0 : Sl kByte S0 w1 v0 r.key) (k1 : Sl kByte S1 w1 v1 r.val) (hv : validIx r = none) (hf : s.l.length < 10000) :
    Calls Tryz.prog 10 #[.pointer (some ⟨B, 0, none⟩), .agg #[.int .i64 r.lsn, .int .i64 r.back, .int .i64 r.epoch, .int .i64 r.group, .int .i64 r.page, .int .i64 r.kind, .int .i64 r.slot, v0, v1, .bool r.last]] w
      fun e w' => ∃ (a b : Value) (s' : HSt), e = .returned (.tuple #[a, b]) ∧ Fr All w1 w' ∧ s'.l.length ≤ s.l.length + 1 ∧
        Calls Tryz.prog 11 #[.pointer (some ⟨Bx, 0, none⟩), .agg #[.int .i64 r.lsn, .int .i64 r.back, .int .i64 r.epoch, .int .i64 r.group, .int .i64 r.page, .int .i64 r.kind, .int .i64 r.slot, v0, v1, .bool r.last]] w'
          fun e' w'' => ∃ (z : Bool) (c : Int), e' = .returned (.tuple #[.bool z, .int .i64 c]) ∧ Both w1 w'' B Bx s' := by
  obtain ⟨X, S, lv, h1, h2, h3, h4, h5⟩ := h.ex
  have hok := h.ok
  refine (addAny hE h1 (k0.all h.fr) (k1.all h.fr) hv h.sp (by omega)).mono ?_
  rintro e w' ⟨a, b, s', rfl, g1, g2, g3, g4, f⟩
  have hxl : s'.l.length ≤ s.l.length + 1 := by
    rw [g2]
    unfold xl
    split
    · rw [lins_len]; omega
    · omega
  refine ⟨a, b, s', rfl, g1.fr, hxl, ?_⟩
  have x5 : Xg S w' Bx 0 lv s.l := h2.move f h3 fun b hb _ => h4 b hb
  refine (ref_add x5 (k0.all g1.fr) (k1.all g1.fr) hv hok.rise (by omega) ⟨by omega, fun x hx => validIx_ok (hok.valid x hx)⟩).mono ?_
  rintro e w'' ⟨z, c, S', lv', rfl, x6, hS', f'⟩
  have hx : xl 0 s.l r = s'.l := by rw [g2, h.gr]
  rw [hx] at x6
  refine ⟨z, c, rfl, ⟨_, fun b => S' b ∧ b < w''.heap.size, lv', g1.grow (f'.mono fun b hb e => hb (e ▸ h3)) h5, ⟨x6.blk, x6.row.mono fun b hb hl => ⟨hb, hl⟩, fun b hb => x6.nB b hb.1⟩, .inl h3, fun b hb => (hS' b hb.1).elim (fun e => .inl (h4 b e)) fun e => .inr ⟨e, hb.2⟩, fun b hb => hb.elim (h5 b) fun hb => by have := g1.fr.size; omega⟩, g3, g4.trans h.gr⟩
theorem both_new {w1 w2 : World} {B : Nat} (h : HHd (fun _ => False) w1 w2 B (.new 0)) : Both w1 (w2.alloc (.cells #[.int .i64 0, .slice none 0 0, .slice none 0 0] 30)) B w2.heap.size (.new 0) := by
  have F := (Fr.refl All w2).alloc (.cells #[.int .i64 0, .slice none 0 0, .slice none 0 0] 30)
  have hs := h.fr.size
  exact ⟨⟨_, fun _ => False, .slice none 0 0, h.guarded F, ⟨heap_alloc_new w2 _, Sl.nil_ _ _ _, fun b hb => hb.elim⟩, ⟨Nat.le_refl _, by rw [World.size_alloc]; omega⟩, fun b hb => hb.elim, fun b hb => by omega⟩, rfl, rfl⟩
set_option maxRecDepth 100000 in
set_option maxHeartbeats 20000000 in
theorem says_walk {qs : List Addr} {w : World} (hq : Errs w qs) {S0 : Nat → Prop} {LA : Option Addr} {ln lc : Nat} {L : List Redo} (a1 a2 : Int) (s0 : Sl kRedo S0 w (.slice LA ln lc) L) :
    Calls Tryz.prog 4 #[.slice LA ln lc, .int .i64 a1, .int .i64 a2] w fun e w' => e = .returned (.bool true) ∧ Fr All w w' := by
  have HQ := Lib.hid hq
  have HS := Lib.hid s0
  have HL := Lib.hid s0.len
  clear hq s0
  go_enter Tryz.func4, Tryz.ntmps4
  go_wp2_with fail
  refine (first11_call w).mono ?_
  rintro e w1 ⟨rfl, f1⟩
  have F1 := Lib.hid f1
  clear f1
  go_wp2_with fail
  refine (right_call 60 (by decide) (HS.out.all F1.out)).mono ?_
  rintro e w2 ⟨b, rfl, hb, f2⟩
  have F2 := Lib.hid (F1.out.trans f2)
  clear f2
  cases b with
  | false =>
    go_wp2_with fail
    go_ret
    exact ⟨rfl, F2.out⟩
  | true =>
    have HV := Lib.hid (hb rfl)
    have hln : ln ≤ 60 := by have := (hb rfl).1; have := HL.out; omega
    clear hb
    go_wp2_with fail
    refine (hnew 0 w2).mono ?_
    rintro e w3 ⟨rfl, h3⟩
    have HB0 := Lib.hid (both_new h3)
    obtain ⟨B, hB⟩ : ∃ B, w2.heap.size = B := ⟨_, rfl⟩
    obtain ⟨Bx, hBx⟩ : ∃ B, w3.heap.size = B := ⟨_, rfl⟩
    obtain ⟨W4, hW4⟩ : ∃ W, w3.alloc (.cells #[.int .i64 0, .slice none 0 0, .slice none 0 0] 30) = W := ⟨_, rfl⟩
    rw [hB, hBx, hW4] at HB0
    simp only [hB]
    clear h3
    go_wp2_with fail
    clear hW4 hB hBx
    go_loopw [10] (fun i wr => ∃ (j : Nat) (s : HSt), j ≤ ln ∧ i = .int .i64 j ∧ Hid (s.l.length ≤ j) ∧ Hid (Both w2 wr B Bx s)) (fun i _ => ln - (intOf i).toNat)
    case atStart => exact ⟨0, .new 0, Nat.zero_le _, rfl, Lib.hid (Nat.zero_le _), HB0⟩
    case round =>
      obtain ⟨j, s, hj, rfl, HN, HB⟩ := hrel
      by_cases hlt : j < ln
      · obtain ⟨y, hy, hym⟩ := get_of (l := L) (k := j) (by rw [HL.out]; exact hlt)
        obtain ⟨bb, oo, B0, m0, d0, B1, m1, d1, rfl, g0, g1, g2, g3, g4, g5, g6, g7, g8, g9, t0, t1⟩ := redo_at (HS.out.all F2.out) hy
        have HC := Lib.hid fun (W : World) (f : Fr All w2 W) => And.intro (f.cell trivial g0) (And.intro (f.cell trivial g1) (And.intro (f.cell trivial g2) (And.intro (f.cell trivial g3) (And.intro (f.cell trivial g4) (And.intro (f.cell trivial g5) (And.intro (f.cell trivial g6) (And.intro (f.cell trivial g7) (And.intro (f.cell trivial g8) (f.cell trivial g9)))))))))
        have HT0 := Lib.hid t0
        have HT1 := Lib.hid t1
        have HVy := Lib.hid (HV.out.2 y hym)
        have HQr := Lib.hid (HQ.out.move (F2.out.trans HB.out.fr))
        have b0 : (0 : Int) ≤ (j : Int) := by omega
        have b1 : (j : Int) < (ln : Int) := by omega
        clear hy hym g0 g1 g2 g3 g4 g5 g6 g7 g8 g9 t0 t1
        obtain ⟨c0, c1, c2, c3, c4, c5, c6, c7, c8, c9⟩ := HC.out wr HB.out.fr
        go_wp2_with fail
        refine (both_add HQr.out HB.out HT0.out HT1.out HVy.out (by have := HN.out; omega)).mono ?_
        rintro e w5 ⟨za, zb, s', rfl, f5, hn5, hadd⟩
        have HA := Lib.hid hadd
        have HN5 := Lib.hid hn5
        clear c0 c1 c2 c3 c4 c5 c6 c7 c8 c9 hadd hn5
        obtain ⟨c0, c1, c2, c3, c4, c5, c6, c7, c8, c9⟩ := HC.out w5 f5
        go_wp2_with fail
        refine HA.out.mono ?_
        rintro e w6 ⟨z, cz, rfl, hb6⟩
        have HB6 := Lib.hid hb6
        clear c0 c1 c2 c3 c4 c5 c6 c7 c8 c9 hb6
        go_wp2_with fail
        go_roundw
        case rel => exact ⟨j + 1, s', by omega, by go_num, Lib.hid (by have := HN.out; have := HN5.out; omega), HB6⟩
        case measure => simp [intOf]; omega
      · obtain rfl : j = ln := by omega
        obtain ⟨X, S, lv, h1, h2, _⟩ := HB.out.ex
        obtain ⟨lvh, svh, hg, _⟩ := h1.ex
        have HOK := Lib.hid HB.out.ok
        have HFr := Lib.hid (F2.out.trans HB.out.fr)
        have HQr := Lib.hid (HQ.out.move HFr.out)
        obtain ⟨p, hp⟩ : ∃ p, (docAt s.l a1 a2).1 = p := ⟨_, rfl⟩
        obtain ⟨d, hd⟩ : ∃ d, (docAt s.l a1 a2).2 = d := ⟨_, rfl⟩
        have hv := vat HQr.out hg a1 a2
        have hx := fun W (f : Fr All wr W) => xat (h2.all f) HOK.out.valid (by have := HN.out; omega) a1 a2
        have hsm := docAt_small HOK.out.valid a1 a2
        simp only [hp, hd] at hv hx hsm
        have HV := Lib.hid hv
        have HX := Lib.hid hx
        have HSM := Lib.hid hsm
        have HI := Lib.hid fun W (f : Fr All wr W) => ids_call (hg.all f) a2
        have HJ := Lib.hid fun W (f : Fr All wr W) => ref_ids (h2.all f) (by have := HN.out; omega) a2
        have HPL := Lib.hid (pagesL_len s.l a2)
        clear hv hx hsm hp hd h1 h2 hg
        go_wp2_with fail
        refine HV.out.mono ?_
        rintro e w5 ⟨A5, n5, c5, ev, rfl, s5, se5, f5⟩
        have FB5 := (Fr.refl All w5).alloc (.cells #[.int .i64 p.id, .int .i64 p.lsn, .int .i64 p.level, .int .i64 p.next, .slice A5 n5 c5] 67)
        have HB5 := heap_alloc_new w5 (.cells #[.int .i64 p.id, .int .i64 p.lsn, .int .i64 p.level, .int .i64 p.next, .slice A5 n5 c5] 67)
        have HS5 := Lib.hid (s5.all FB5)
        have HE5 := Lib.hid (se5.move FB5)
        have F5 := Lib.hid (f5.trans FB5)
        obtain ⟨p0, p1, p2, p3, p4, pz⟩ := blk5 HB5
        have hxx := Lib.hid (HX.out _ F5.out)
        clear s5 se5 FB5 f5
        go_wp2_with fail
        refine hxx.out.mono ?_
        rintro e w6 ⟨A6, n6, c6, rfl, s6, f6⟩
        have FB6 := (Fr.refl All w6).alloc (.cells #[.int .i64 p.id, .int .i64 p.lsn, .int .i64 p.level, .int .i64 p.next, .slice A6 n6 c6] 67)
        have HB6 := heap_alloc_new w6 (.cells #[.int .i64 p.id, .int .i64 p.lsn, .int .i64 p.level, .int .i64 p.next, .slice A6 n6 c6] 67)
        have B5 := (FB6.block _ (Nat.lt_of_lt_of_le (blk_lt HB5) f6.size) trivial).trans ((f6.block _ (blk_lt HB5) trivial).trans HB5)
        have HS6 := Lib.hid (s6.all FB6)
        have HS56 := Lib.hid ((HS5.out.all f6).all FB6)
        have HE6 := Lib.hid ((HE5.out.move f6).move FB6)
        have F6 := Lib.hid ((F5.out.trans f6).trans FB6)
        clear p0 p1 p2 p3 p4 pz HB5 s6 f6 FB6 HS5 HE5 hxx F5
        obtain ⟨p0, p1, p2, p3, p4, pz⟩ := blk5 B5
        obtain ⟨q0, q1, q2, q3, q4, qz⟩ := blk5 HB6
        go_wp2_with fail
        refine (same_page (p := p) HS56.out HS6.out (by have := HSM.out.1; omega) (fun x hx => by have := HSM.out.2 x hx; omega)).mono ?_
        rintro e w7 ⟨rfl, f7⟩
        clear p0 p1 p2 p3 p4 pz q0 q1 q2 q3 q4 qz
        go_wp2_with fail
        refine (see_is (HE6.out.move f7) d).mono ?_
        rintro e w8 ⟨rfl, f8⟩
        rw [decide_eq_true (⟨rfl, rfl, rfl⟩ : d = d ∧ false = false ∧ (0 : Int) = 0)]
        have F8 := Lib.hid ((F6.out.trans f7).trans f8)
        go_wp2_with fail
        refine (HI.out _ F8.out).mono ?_
        rintro e w9 ⟨A9, n9, c9, rfl, o9, f9⟩
        have HS9 := Lib.hid o9.sl
        have F9 := Lib.hid (F8.out.trans f9)
        clear o9
        go_wp2_with fail
        refine (HJ.out _ F9.out).mono ?_
        rintro e w10 ⟨A10, n10, c10, rfl, s10, f10⟩
        have HS10 := Lib.hid s10
        clear s10
        go_wp2_with fail
        refine (same_ints (HS9.out.all f10) HS10.out (by have h1 := onces_len (ascend_le (pagesL s.l a2)); rw [ascend_len] at h1; have := HPL.out; have := HN.out; omega)).mono ?_
        rintro e w11 ⟨rfl, f11⟩
        rw [decide_eq_true rfl]
        go_wp2_with fail
        go_ret
        exact ⟨rfl, HFr.out.trans ((F9.out.trans f10).trans f11)⟩
end Go.Proofs.YtoaamcpiljoojaaGreatDoor
