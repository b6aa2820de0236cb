/- A log of its own: slices.Clone of records and of spans, Clone. -/
import Derived.Test.YteclgcnndjcmmaaDoorHHd
import Derived.Test.YteclgcnndjcmmaaDoorLast3
import Derived.Test.YteclgcnndjcmmaaDoorRAll
namespace Go.Proofs.YteclgcnndjcmmaaDoor
open Go.RowKit

theorem info_span : (Tryd.prog.info? 81).map (fun i => (i.zero, i.size, i.bytes)) = some (some (.agg #[.int .i64 0, .int .i64 0, .int .i64 0]), kSpan.sz, 24) := by kernel_rfl
set_option maxRecDepth 100000 in
theorem cloner_nil (n c : Nat) (w : World) : Calls Tryd.prog 48 #[.slice none n c] w fun e w' => e = .returned (.slice none 0 0) ∧ w = w' := by
  have h1 := Lib.run_eql_slice_nil (P := Tryd.prog) w 54 36 none n c 0 0 Tryd.underlying54
  go_enter Tryd.func48, Tryd.ntmps48
  go_wp2_with fail
  go_ret
  exact ⟨rfl, rfl⟩
set_option maxRecDepth 100000 in
set_option maxHeartbeats 400000 in
theorem cloner_some (ad : Addr) (n c : Nat) (xs : List Redo) (S : Nat → Prop) (w : World) (h : Src kRedo S w (.slice (some ad) n c) xs) (hn : xs.length ≤ 1000000) :
    Calls Tryd.prog 48 #[.slice (some ad) n c] w fun e w' => ∃ v, e = .returned v ∧ Own kRedo 36 w.heap.size S w' v xs ∧ Fr All w w' := by
  have h1 := Lib.run_eql_slice_nil (P := Tryd.prog) w 54 36 (some ad) n c 0 0 Tryd.underlying54
  have HY : Src kRedo (fun b => S b ∧ b < w.heap.size) (w.alloc (.cells #[] 36)) (.slice (some ad) n c) xs := (h.mono fun b hb hl => ⟨hb, hl⟩).all ((Fr.refl All w).alloc _)
  have HO := Own.lay0 kRedo 36 w.heap.size S w (Nat.le_refl _)
  have hne : ∀ b, (S b ∧ b < w.heap.size) → b < (w.alloc (.cells #[] 36)).heap.size → S b ∧ some b ≠ (Value.slice (some ⟨w.heap.size, 0, none⟩) 0 0).ownBlock := fun b hb _ => ⟨hb.1, fun e => by
    have : b = w.heap.size := Option.some.inj e
    omega⟩
  have hl : (([] : List Redo).length + xs.length) * 112 ≤ 140737488355328 := by simp only [List.length_nil]; omega
  clear h
  go_enter Tryd.func48, Tryd.ntmps48
  go_wp2_with (at_builtin; refine wpList_app rfl rfl Tryd.underlying54 infoRedo rfl (by decide) HO HY rfl rfl hne hl (by simp) ?_; intro v' w' h3 h4 h5)
  go_ret
  exact ⟨v', rfl, h3, ((Fr.refl All w).alloc _).row h4.grown fun k hk => Nat.le_of_eq (Option.some.inj hk)⟩
theorem clone_redos {v : Value} {xs : List Redo} {S : Nat → Prop} {w : World} (h : Src kRedo S w v xs) (hn : xs.length ≤ 1000000) :
    Calls Tryd.prog 48 #[v] w fun e w' => ∃ A' c', e = .returned (.slice A' xs.length c') ∧ Own kRedo 36 w.heap.size S w' (.slice A' xs.length c') xs ∧ Fr All w w' := by
  obtain ⟨A, c, _, rfl, _⟩ := id h
  cases A with
  | some ad =>
    refine (cloner_some ad _ c xs S w h hn).mono fun e w' ⟨v, he, ho, hf⟩ => ?_
    obtain ⟨A', c', rfl⟩ := ho.length
    exact ⟨A', c', he, ho, hf⟩
  | none =>
    have h0 : xs = [] := by
      obtain ⟨A, c, _, he, _, hx⟩ := h
      injection he with ha hl
      subst ha
      by_cases h0 : 0 < xs.length
      · obtain ⟨_, _, hh, _⟩ := hx h0
        cases hh
      · exact List.eq_nil_of_length_eq_zero (by omega)
    subst h0
    exact (cloner_nil _ c w).mono fun e w' ⟨he, hw⟩ => ⟨none, 0, he, Own.nil_ _ _ _ _ _, by rw [← hw]; exact Fr.refl _ _⟩

set_option maxRecDepth 100000 in
theorem clones_nil (n c : Nat) (w : World) : Calls Tryd.prog 34 #[.slice none n c] w fun e w' => e = .returned (.slice none 0 0) ∧ w = w' := by
  have h1 := Lib.run_eql_slice_nil (P := Tryd.prog) w 47 81 none n c 0 0 Tryd.underlying47
  go_enter Tryd.func34, Tryd.ntmps34
  go_wp2_with fail
  go_ret
  exact ⟨rfl, rfl⟩
theorem reps_span {S T : Nat → Prop} {w w' : World} : ∀ {xs : List Span} {cs : List Value}, Reps kSpan S w xs cs → Reps kSpan T w' xs cs
  | [], _, h => h
  | _ :: _, _, ⟨c1, c2, he, hk, hr⟩ => ⟨c1, c2, he, by rw [kSpan_open hk]; exact kSpan_mk, reps_span hr⟩
set_option maxRecDepth 100000 in
set_option maxHeartbeats 400000 in
theorem clones_some (ad : Addr) (n c : Nat) (xs : List Span) (S : Nat → Prop) (w : World) (h : Sl kSpan S w (.slice (some ad) n c) xs) (hn : xs.length ≤ 1000000) :
    Calls Tryd.prog 34 #[.slice (some ad) n c] w fun e w' => ∃ v, e = .returned v ∧ Own kSpan 81 w.heap.size Nowhere w' v xs ∧ Fr All w w' := by
  have h1 := Lib.run_eql_slice_nil (P := Tryd.prog) w 47 81 (some ad) n c 0 0 Tryd.underlying47
  have HY : Src kSpan Nowhere (w.alloc (.cells #[] 81)) (.slice (some ad) n c) xs := by
    obtain ⟨A, c, news, he, hr, hx⟩ := (h.all ((Fr.refl All w).alloc _)).src
    exact ⟨A, c, news, he, reps_span hr, hx⟩
  have HO := Own.lay0 kSpan 81 w.heap.size Nowhere w (Nat.le_refl _)
  clear h
  go_enter Tryd.func34, Tryd.ntmps34
  go_wp2_with (at_builtin; refine wpList_app rfl rfl Tryd.underlying47 info_span rfl (by decide) HO HY rfl rfl (fun _ h _ => h.elim) (by simp only [List.length_nil]; omega) (by simp) ?_; intro v' w' h3 h4 h5)
  go_ret
  exact ⟨v', rfl, h3, ((Fr.refl All w).alloc _).row h4.grown fun k hk => Nat.le_of_eq (Option.some.inj hk)⟩
theorem clone_spans {v : Value} {xs : List Span} {S : Nat → Prop} {w : World} (h : Sl kSpan S w v xs) (hn : xs.length ≤ 1000000) :
    Calls Tryd.prog 34 #[v] w fun e w' => ∃ A' c', e = .returned (.slice A' xs.length c') ∧ Own kSpan 81 w.heap.size Nowhere w' (.slice A' xs.length c') xs ∧ Fr All w w' := by
  obtain ⟨A, c, rfl, _⟩ := id h
  cases A with
  | some ad =>
    refine (clones_some ad _ c xs S w h hn).mono fun e w' ⟨v, he, ho, hf⟩ => ?_
    obtain ⟨A', c', rfl⟩ := ho.length
    exact ⟨A', c', he, ho, hf⟩
  | none =>
    have h0 : xs = [] := by
      obtain ⟨A, c, he, _, _, hx⟩ := h
      injection he with ha hl
      subst ha
      by_cases h0 : 0 < xs.length
      · obtain ⟨_, _, hh, _⟩ := hx h0
        cases hh
      · exact List.eq_nil_of_length_eq_zero (by omega)
    subst h0
    exact (clones_nil _ c w).mono fun e w' ⟨he, hw⟩ => ⟨none, 0, he, Own.nil_ _ _ _ _ _, by rw [← hw]; exact Fr.refl _ _⟩

set_option hygiene false in
set_option maxRecDepth 100000 in
set_option maxHeartbeats 2000000 in
theorem hot_clone {S : Nat → Prop} {w : World} {B : Nat} {lv sv : Value} {s : HSt} (h : Hg S w B lv sv s) : Calls Tryd.prog 26 #[.pointer (some ⟨B, 0, none⟩)] w fun e w' =>
    ∃ lv' sv', e = .returned (.pointer (some ⟨w.heap.size, 0, none⟩)) ∧ Hg (fun b => (S b ∧ b < w.heap.size) ∨ w.heap.size < b) w' w.heap.size lv' sv' s ∧ (∀ k, lv'.ownBlock = some k → w.heap.size < k) ∧ Fr All w w' := by
  obtain ⟨A, c, rfl⟩ := h.row.length
  obtain ⟨SA, sn, sc, rfl, esn, _⟩ := h.sp.open_
  have hfew := h.few
  have H := Lib.hid h
  obtain ⟨n, hn⟩ : ∃ n, s.l.length = n := ⟨_, rfl⟩
  obtain ⟨q0, q1, q2, q3, q4, q5, qz⟩ := blk6 h.blk
  rw [hn] at q1 hfew
  have P := heap_alloc_new w (.cells #[.int .i64 s.group, .slice A n c, .slice SA sn sc, .int .i64 s.cuts, .int .i64 s.scl, .bool s.known] 77)
  have F0 := (Fr.refl All w).alloc (.cells #[.int .i64 s.group, .slice A n c, .slice SA sn sc, .int .i64 s.cuts, .int .i64 s.scl, .bool s.known] 77)
  have hsz : (w.alloc (.cells #[.int .i64 s.group, .slice A n c, .slice SA sn sc, .int .i64 s.cuts, .int .i64 s.scl, .bool s.known] 77)).heap.size = w.heap.size + 1 := World.size_alloc _ _
  have hlB := h.lt
  have Hn := Lib.hid hn
  have Hsn := Lib.hid esn
  clear h hn esn
  go_enter Tryd.func26, Tryd.ntmps26
  go_upto_region 2 with (fail)
  refine wp_name ?_
  intro W hW
  rw [← hW] at P F0 hsz
  clear hW q0 q1 q2 q3 q4 q5 qz
  have H1 := Lib.hid (H.out.all F0)
  obtain ⟨q0, q1, q2, q3, q4, q5, qz⟩ := blk6 H1.out.blk
  rw [Hn.out] at q1
  have hlP := blk_lt P
  refine wp_region_all (S := fun w' => w'.cell? ⟨B, 1, none⟩ = some (.slice A n c) ∧ w'.cell? ⟨B, 2, none⟩ = some (.slice SA sn sc)) (by kernel_rfl) ⟨q1, q2⟩ (fun hHeld => ?_)
  refine wpAnyH_take (i := 0) (v := ?_) rfl (by kernel_rfl) (by kernel_rfl) (by kernel_rfl) (fun _ _ _ h => h) (Or.inl ⟨by rfl, ?_⟩) (by assumption) ?_
  rotate_left
  · (intro w hSw; (try dsimp only at hSw); go_simp; try with_reducible rfl)
  try simp only [Act.put]
  try simp only [List.setIfInBounds_toArray]
  try simp only [List.set_cons_succ]
  try simp only [List.set_cons_zero]
  refine wpAnyH_take (i := 1) (v := ?_) rfl (by kernel_rfl) (by kernel_rfl) (by kernel_rfl) (fun _ _ _ h => h) (Or.inl ⟨by rfl, ?_⟩) (by assumption) ?_
  rotate_left
  · (intro w hSw; (try dsimp only at hSw); go_simp; try with_reducible rfl)
  try simp only [Act.put]
  try simp only [List.setIfInBounds_toArray]
  try simp only [List.set_cons_succ]
  try simp only [List.set_cons_zero]
  refine wpAnyH_take (i := 2) (v := ?_) rfl (by kernel_rfl) (by kernel_rfl) (by kernel_rfl) (fun _ _ _ h => h) (Or.inl ⟨by rfl, ?_⟩) (by assumption) ?_
  rotate_left
  · (intro w hSw; (try dsimp only at hSw); go_simp; try with_reducible rfl)
  try simp only [Act.put]
  try simp only [List.setIfInBounds_toArray]
  try simp only [List.set_cons_succ]
  try simp only [List.set_cons_zero]
  refine wpAnyH_take (i := 3) (v := ?_) rfl (by kernel_rfl) (by kernel_rfl) (by kernel_rfl) (fun _ _ _ h => h) (Or.inl ⟨by rfl, ?_⟩) (by assumption) ?_
  rotate_left
  · (intro w hSw; (try dsimp only at hSw); go_simp; try with_reducible rfl)
  try simp only [Act.put]
  try simp only [List.setIfInBounds_toArray]
  try simp only [List.set_cons_succ]
  try simp only [List.set_cons_zero]
  refine wpAnyH_take (i := 5) (v := ?_) rfl (by kernel_rfl) (by kernel_rfl) (by kernel_rfl) (fun _ _ _ h => h) (Or.inl ⟨by rfl, ?_⟩) (by assumption) ?_
  rotate_left
  · (intro w hSw; (try dsimp only at hSw); go_simp; try with_reducible rfl)
  try simp only [Act.put]
  try simp only [List.setIfInBounds_toArray]
  try simp only [List.set_cons_succ]
  try simp only [List.set_cons_zero]
  refine wpAnyH_take (i := 6) (v := ?_) rfl (by kernel_rfl) (by kernel_rfl) (by kernel_rfl) (fun _ _ _ h => h) (Or.inl ⟨by rfl, ?_⟩) (by assumption) ?_
  rotate_left
  · (intro w hSw; (try dsimp only at hSw); go_simp; try with_reducible rfl)
  try simp only [Act.put]
  try simp only [List.setIfInBounds_toArray]
  try simp only [List.set_cons_succ]
  try simp only [List.set_cons_zero]
  refine wpAnyH_take (i := 7) (v := ?_) rfl (by kernel_rfl) (by kernel_rfl) (by kernel_rfl) (fun _ _ _ h => h) (Or.inl ⟨by rfl, ?_⟩) (by assumption) ?_
  rotate_left
  · (intro w hSw; (try dsimp only at hSw); go_simp; try with_reducible rfl)
  try simp only [Act.put]
  try simp only [List.setIfInBounds_toArray]
  try simp only [List.set_cons_succ]
  try simp only [List.set_cons_zero]
  refine wpAnyH_take (i := 8) (v := ?_) rfl (by kernel_rfl) (by kernel_rfl) (by kernel_rfl) (fun _ _ _ h => h) (Or.inl ⟨by rfl, ?_⟩) (by assumption) ?_
  rotate_left
  · (intro w hSw; (try dsimp only at hSw); go_simp; try with_reducible rfl)
  try simp only [Act.put]
  try simp only [List.setIfInBounds_toArray]
  try simp only [List.set_cons_succ]
  try simp only [List.set_cons_zero]
  refine wpAnyH_ready (rs := [4]) (by kernel_rfl) (by simp) (AllReadyH.cons rfl (fun K hK => ?_) AllReadyH.nil)
  go_simp
  refine (clone_redos (show Src kRedo (fun b => S b ∧ b < w.heap.size) W.drew (.slice A n c) s.l by rw [← Hn.out]; exact (H.out.row.src.mono fun b hb hl => ⟨hb.1, hl⟩).all F0.drew) (by have := Hn.out; omega)).mono ?_
  rintro e w3 ⟨A3, c3, rfl, o3, f3⟩
  rw [Hn.out] at o3
  simp only [Hn.out]
  go_simp
  have F3 : Fr All W w3 := (Fr.refl All W).drew.then_all f3
  refine hK.out _ _ ⟨F3.cell trivial q1, F3.cell trivial q2⟩ (fun hHeld => ?_)
  clear hK K
  try simp only [Act.put]
  try simp only [List.setIfInBounds_toArray]
  try simp only [List.set_cons_succ]
  try simp only [List.set_cons_zero]
  refine wpAnyH_ready (rs := [9]) (by kernel_rfl) (by simp) (AllReadyH.cons rfl (fun K hK => ?_) AllReadyH.nil)
  go_simp
  refine (clone_spans (H1.out.sp.all F3) (by have := H1.out.ok.sfew; omega)).mono ?_
  rintro e w4 ⟨A4, c4, rfl, o4, f4⟩
  rw [Hsn.out] at o4
  simp only [Hsn.out]
  go_simp
  have F4 : Fr All W w4 := F3.then_all f4
  refine hK.out _ _ ⟨F4.cell trivial q1, F4.cell trivial q2⟩ (fun hHeld => ?_)
  clear hK K
  try simp only [Act.put]
  try simp only [List.setIfInBounds_toArray]
  try simp only [List.set_cons_succ]
  try simp only [List.set_cons_zero]
  refine wpAnyH_take (i := 10) (v := ?_) rfl (by kernel_rfl) (by kernel_rfl) (by kernel_rfl) (fun _ _ _ h => h) (Or.inl ⟨by rfl, ?_⟩) (by assumption) ?_
  rotate_left
  · (intro w hSw; (try dsimp only at hSw); go_simp; try with_reducible rfl)
  try simp only [Act.put]
  try simp only [List.setIfInBounds_toArray]
  try simp only [List.set_cons_succ]
  try simp only [List.set_cons_zero]
  have HC1 := Lib.hid hHeld
  have FW := F0.trans F4
  have B1 := (F4.block _ hlP trivial).trans P
  have O3 := Lib.hid (o3.all f4)
  have O4 := Lib.hid o4
  have L3 := Lib.hid (own_lt o3)
  have L4 := Lib.hid (own_lt o4)
  have HB1 := Lib.hid B1
  have HFW := Lib.hid FW
  have Z3 := Lib.hid F3.size
  clear hHeld q0 q1 q2 q3 q4 q5 qz P o3 o4 F3 f3 f4 F4 FW
  obtain ⟨q0, q1, q2, q3, q4, q5, qz⟩ := blk6 B1
  clear B1
  refine wpAnyH_ready (rs := [11]) (by kernel_rfl) (by simp) (AllReadyH.cons rfl (fun K hK => ?_) AllReadyH.nil)
  go_simp
  refine hK.out _ _ ⟨(Fr.setCell (S := fun b => b ≠ w.heap.size) (Fr.refl _ w4) (fun m hm => hm) _).cell (p := ⟨B, 1, none⟩) (show B ≠ w.heap.size by omega) HC1.out.1, (Fr.setCell (S := fun b => b ≠ w.heap.size) (Fr.refl _ w4) (fun m hm => hm) _).cell (p := ⟨B, 2, none⟩) (show B ≠ w.heap.size by omega) HC1.out.2⟩ (fun hHeld => ?_)
  clear hK K
  try simp only [Act.put]
  try simp only [List.setIfInBounds_toArray]
  try simp only [List.set_cons_succ]
  try simp only [List.set_cons_zero]
  refine wpAnyH_take (i := 12) (v := ?_) rfl (by kernel_rfl) (by kernel_rfl) (by kernel_rfl) (fun _ _ _ h => h) (Or.inl ⟨by rfl, ?_⟩) (by assumption) ?_
  rotate_left
  · (intro w hSw; (try dsimp only at hSw); go_simp; try with_reducible rfl)
  try simp only [Act.put]
  try simp only [List.setIfInBounds_toArray]
  try simp only [List.set_cons_succ]
  try simp only [List.set_cons_zero]
  refine wpAnyH_ready (rs := [13]) (by kernel_rfl) (by simp) (AllReadyH.cons rfl (fun K hK => ?_) AllReadyH.nil)
  go_simp
  have hh2 := hHeld
  refine hK.out _ _ ⟨(Fr.setCell (S := fun b => b ≠ w.heap.size) (Fr.refl _ _) (fun m hm => hm) _).cell (p := ⟨B, 1, none⟩) (show B ≠ w.heap.size by omega) hh2.1, (Fr.setCell (S := fun b => b ≠ w.heap.size) (Fr.refl _ _) (fun m hm => hm) _).cell (p := ⟨B, 2, none⟩) (show B ≠ w.heap.size by omega) hh2.2⟩ (fun hHeld => ?_)
  clear hK K
  try simp only [Act.put]
  try simp only [List.setIfInBounds_toArray]
  try simp only [List.set_cons_succ]
  try simp only [List.set_cons_zero]
  refine wpAnyH_done (by kernel_rfl) ?_ _
  go_wp2_with fail
  go_ret
  have fS : Fr (fun b => b ≠ w.heap.size) w4 ((w4.setCell ⟨w.heap.size, 1, none⟩ (.slice A3 n c3)).setCell ⟨w.heap.size, 2, none⟩ (.slice A4 sn c4)) := by
    repeat (first | (with_reducible exact Fr.refl _ _) | with_reducible refine Fr.setCell ?_ (fun m hm => by exact hm) _)
  have hd : W.drew.heap.size = W.heap.size := rfl
  have b3 : ∀ k, (Value.slice A3 n c3).ownBlock = some k → w.heap.size < k ∧ k < w3.heap.size := fun k hk => by have := L3.out k hk; omega
  have b4 : ∀ k, (Value.slice A4 sn c4).ownBlock = some k → w3.heap.size ≤ k := fun k hk => (L4.out k hk).1
  have z3 := Z3.out
  have hO3 : Own kRedo 36 0 (fun b => (S b ∧ b < w.heap.size) ∨ w.heap.size < b) w4 (.slice A3 n c3) s.l := (O3.out.mono fun b hb _ => .inl hb).lower (Nat.zero_le _)
  have h3B : (Value.slice A3 n c3).ownBlock ≠ some w.heap.size := fun e => by have := b3 _ e; omega
  refine ⟨.slice A3 n c3, .slice A4 sn c4, rfl, ⟨heap_setCell_same _ w.heap.size 2 _ _ _ (heap_setCell_same _ w.heap.size 1 _ _ _ HB1.out), ?_, ?_, ?_, h3B, H.out.ok⟩, fun k hk => (b3 k hk).1, ?_⟩
  · refine hO3.move fS (fun b hb _ => ?_) fun k hk e => h3B (by rw [hk, e])
    rcases hb with hb | hb <;> omega
  · refine (O4.out.sl.mono (T := fun b => ((((S b ∧ b < w.heap.size) ∨ w.heap.size < b) ∧ some b ≠ (Value.slice A3 n c3).ownBlock)) ∧ b ≠ w.heap.size) fun b hb _ => ?_).move' fS (fun b hb _ => hb.2) |>.mono fun b hb _ => hb.1
    rcases hb with hb | hb
    · exact hb.elim
    · have h4 := b4 b hb.symm
      exact ⟨⟨.inr (by omega), fun e => by have := (b3 b e.symm).2; omega⟩, by omega⟩
  · rintro b (hb | hb) <;> omega
  · have hFW := HFW.out
    repeat (first | (with_reducible exact hFW) | with_reducible refine Fr.setNew ?_ (by dsimp only; omega) _)
end Go.Proofs.YteclgcnndjcmmaaDoor
