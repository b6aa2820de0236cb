/- The chapter's disk: Write, Sync, Crash. -/
import Derived.Test.YteikddopeplomaaDoorPlD
import Derived.Test.YteikddopeplomaaDoorLast
import Derived.Deep.Cut
namespace Go.Proofs.YteikddopeplomaaDoor
open Go.RowKit

theorem RSt.power_same (r : RSt) : r.power.pend = r.pend ∧ r.power.kept = r.kept ∧ r.power.calls = r.calls ∧ r.power.blocks = r.blocks := by
  unfold RSt.power
  split <;> exact ⟨rfl, rfl, rfl, rfl⟩
theorem rins_le (x : Blk) : ∀ l : List Blk, (rins x l).length ≤ l.length + 1
  | [] => by simp [rins]
  | y :: ys => by
    rw [rins]
    split
    · have := List.length_filter_le (fun z : Blk => z.1 != x.1) (y :: ys)
      simp only [List.length_cons] at this ⊢
      omega
    · have := rins_le x ys
      simp only [List.length_cons]
      omega
theorem rsync_le : ∀ (l k : List Blk), (rsync k l).length ≤ k.length + l.length
  | [], k => Nat.le_refl _
  | p :: ps, k => by
    have h1 := rsync_le ps (rins p k)
    have h2 := rins_le p k
    show (rsync (rins p k) ps).length ≤ _
    simp only [List.length_cons]
    omega
theorem rsync_snoc {k l : List Blk} {j : Nat} {p : Blk} (h : l[j]? = some p) : rsync k (l.take (j + 1)) = rins p (rsync k (l.take j)) := by
  rw [take_snoc h, rsync, List.foldl_append]
  rfl
theorem rpick_le (od : Int → Bool) (k l : List Blk) (ps : List Int) : ∀ j, (rpick od k l ps j).length ≤ k.length + j
  | 0 => Nat.le_refl _
  | j + 1 => by
    have h1 := rpick_le od k l ps j
    rw [rpick]
    split
    · have h2 := rins_le (l.getD j (0, [])) (rpick od k l ps j)
      omega
    · omega

section
variable {T : Nat → Prop} {w w' : World} {R : Nat} {r : RSt}

/-! ### Write -/
theorem rwrite_down (h : Rk T w R r) (hf : r.fuse ≤ 9223372036854775807) (hu : r.power.down = true) (i : Int) (A : Option Addr) (n c : Nat) :
    Calls Tryd.prog 45 #[.pointer (some ⟨R, 0, none⟩), .int .i64 i, .slice A n c] w fun e w' => e = .returned (.int .i64 110) ∧ Rk T w' R r.power ∧ Fr (fun x => x ≠ R) w w' := by
  have hc := rpower_call h hf
  rw [hu] at hc
  have HC := Lib.hid hc
  clear hc h hu
  go_enter Tryd.func45, Tryd.ntmps45
  go_wp2_with fail
  refine HC.out.mono ?_
  rintro e w1 ⟨rfl, h1, f1⟩
  have H1 := Lib.hid h1
  clear h1
  go_wp2_with fail
  go_ret
  exact ⟨rfl, H1.out, f1⟩
theorem rwrite_out (h : Rk T w R r) (hf : r.fuse ≤ 9223372036854775807) (hu : r.power.down = false) {i : Int} (hi : i < 0 ∨ r.blocks ≤ i) (A : Option Addr) (n c : Nat) :
    Calls Tryd.prog 45 #[.pointer (some ⟨R, 0, none⟩), .int .i64 i, .slice A n c] w fun e w' => e = .returned (.int .i64 109) ∧ Rk T w' R r.power ∧ Fr (fun x => x ≠ R) w w' := by
  obtain ⟨t, ht⟩ : ∃ t, r.power = t := ⟨_, rfl⟩
  have hb : t.blocks = r.blocks := by rw [← ht]; exact r.power_same.2.2.2
  rw [← hb] at hi
  have hc := rpower_call h hf
  rw [ht] at hc hu ⊢
  rw [hu] at hc
  have HC := Lib.hid hc
  clear hc h hu ht hb
  cases d1 : decide (i < 0) with
  | true =>
    clear hi
    go_enter Tryd.func45, Tryd.ntmps45
    go_wp2_with fail
    refine HC.out.mono ?_
    rintro e w1 ⟨rfl, h1, f1⟩
    have H1 := Lib.hid h1
    clear h1
    go_wp2_with fail
    go_ret
    exact ⟨rfl, H1.out, f1⟩
  | false =>
    have d2 : decide (i ≥ t.blocks) = true := decide_eq_true (by have := of_decide_eq_false d1; omega)
    clear hi
    go_enter Tryd.func45, Tryd.ntmps45
    go_wp2_with fail
    refine HC.out.mono ?_
    rintro e w1 ⟨rfl, h1, f1⟩
    have H1 := Lib.hid h1
    obtain ⟨KA, kc, PA, pc, hb, _, _⟩ := h1
    obtain ⟨c0, c1, c2, c3, c4, c5, cz⟩ := blk6 hb
    clear hb
    go_wp2_with fail
    go_ret
    exact ⟨rfl, H1.out, f1⟩
theorem rwrite_many (h : Rk T w R r) (hf : r.fuse ≤ 9223372036854775807) (hu : r.power.down = false) {i : Int} (h0 : 0 ≤ i) (h1 : i < r.blocks) (A : Option Addr) {n : Nat} (hn : 256 < n) (c : Nat) :
    Calls Tryd.prog 45 #[.pointer (some ⟨R, 0, none⟩), .int .i64 i, .slice A n c] w fun e w' => e = .returned (.int .i64 104) ∧ Rk T w' R r.power ∧ Fr (fun x => x ≠ R) w w' := by
  obtain ⟨t, ht⟩ : ∃ t, r.power = t := ⟨_, rfl⟩
  have hb : t.blocks = r.blocks := by rw [← ht]; exact r.power_same.2.2.2
  rw [← hb] at h1
  have hc := rpower_call h hf
  rw [ht] at hc hu ⊢
  rw [hu] at hc
  have HC := Lib.hid hc
  have d1 : decide (i < 0) = false := decide_eq_false (by omega)
  have d2 : decide (i ≥ t.blocks) = false := decide_eq_false (by omega)
  have d3 : decide ((n : Int) > 256) = true := decide_eq_true (by omega)
  clear hc h hu ht hb h1
  go_enter Tryd.func45, Tryd.ntmps45
  go_wp2_with fail
  refine HC.out.mono ?_
  rintro e w1 ⟨rfl, h1, f1⟩
  have H1 := Lib.hid h1
  obtain ⟨KA, kc, PA, pc, hb, _, _⟩ := h1
  obtain ⟨c0, c1, c2, c3, c4, c5, cz⟩ := blk6 hb
  clear hb
  go_wp2_with fail
  go_ret
  exact ⟨rfl, H1.out, f1⟩

set_option hygiene false in
set_option maxRecDepth 100000 in
set_option maxHeartbeats 2000000 in
theorem rwrite_ok (h : Rk T w R r) (hT : ∀ x, w.heap.size ≤ x → T x) {v : Value} {xs : List UInt8} {S : Nat → Prop} {i : Int} (hv : Sl kByte S w v xs) (hS : ∀ x, S x → x < w.heap.size → x ≠ R) (hf : r.fuse ≤ 9223372036854775807) (hu : r.power.down = false) (h0 : 0 ≤ i) (h1 : i < r.blocks) (hl : xs.length ≤ 256) (hn : r.pend.length ≤ 1000000) (hc0 : 0 ≤ r.calls) (hc : r.calls ≤ 1000000) :
    Calls Tryd.prog 45 #[.pointer (some ⟨R, 0, none⟩), .int .i64 i, v] w fun e w' => e = .returned (.int .i64 0) ∧ Rk T w' R { r.power with pend := rins (i, xs) r.power.pend, calls := r.power.calls + 1 } ∧ Fr (fun x => x ≠ R) w w' := by
  obtain ⟨A, n, c, rfl, en, _⟩ := hv.open_
  obtain ⟨g1, g2, g3, g4⟩ := r.power_same
  obtain ⟨t, ht⟩ : ∃ t, r.power = t := ⟨_, rfl⟩
  have hcall := rpower_call h hf
  rw [ht] at hcall hu g1 g2 g3 g4 ⊢
  rw [hu] at hcall
  rw [← g4] at h1
  rw [← g1] at hn
  rw [← g3] at hc0 hc
  have d1 : decide (i < 0) = false := decide_eq_false (by omega)
  have d2 : decide (i ≥ t.blocks) = false := decide_eq_false (by omega)
  have d3 : decide ((n : Int) > 256) = false := decide_eq_false (by omega)
  have hw : IntKind.i64.wrap (t.calls + 1) = t.calls + 1 := IntWalk.i64_in _ (by omega)
  have HC := Lib.hid hcall
  have HL := Lib.hid h.lt
  have En := Lib.hid en
  clear h ht hcall g1 g2 g3 g4 hu en
  go_enter Tryd.func45, Tryd.ntmps45
  go_wp2_with fail
  refine HC.out.mono ?_
  rintro e w1 ⟨rfl, h1', f1⟩
  have hv1 : Sl kByte (fun _ => True) w1 (.slice A n c) xs := (hv.move' f1 hS).mono fun _ _ _ => trivial
  have hT1 : ∀ x, w1.heap.size ≤ x → x ≠ R ∧ T x := fun x hx => ⟨by have := f1.size; have := HL.out; omega, hT x (Nat.le_trans f1.size hx)⟩
  obtain ⟨KA, kc, PA, pc, hb, hk, hp⟩ := h1'
  obtain ⟨c0, c1, c2, c3, c4, c5, cz⟩ := blk6 hb
  have HB := Lib.hid hb
  have HK := Lib.hid hk
  have HP := Lib.hid hp
  obtain ⟨pl, hpl⟩ : ∃ pl, t.pend.length = pl := ⟨_, rfl⟩
  rw [hpl] at c3
  have HPL := Lib.hid hpl
  clear hb hk hp hpl
  go_upto_region 7 with (fail)
  refine wp_region_last (S := fun w' => w'.cell? ⟨R, 3, none⟩ = some (.slice PA pl pc)) 12 (by kernel_rfl) rfl (by kernel_rfl) c3 (fun hHeld => ?_)
  simp only [List.take_succ_cons, List.take_zero]
  refine wpAnyH_take (i := 0) (v := ?_) rfl (by kernel_rfl) (by kernel_rfl) (by kernel_rfl) (fun _ _ _ h => h) (Or.inl ⟨by rfl, ?_⟩) (by assumption) ?_
  rotate_left
  · (intro w hSw; (try dsimp only at hSw); go_simp; try with_reducible rfl)
  try simp only [Act.put]
  try simp only [List.setIfInBounds_toArray]
  try simp only [List.set_cons_succ]
  try simp only [List.set_cons_zero]
  refine wpAnyH_take (i := 1) (v := ?_) rfl (by kernel_rfl) (by kernel_rfl) (by kernel_rfl) (fun _ _ _ h => h) (Or.inl ⟨by rfl, ?_⟩) (by assumption) ?_
  rotate_left
  · (intro w hSw; (try dsimp only at hSw); go_simp; try with_reducible rfl)
  try simp only [Act.put]
  try simp only [List.setIfInBounds_toArray]
  try simp only [List.set_cons_succ]
  try simp only [List.set_cons_zero]
  refine wpAnyH_take (i := 2) (v := ?_) rfl (by kernel_rfl) (by kernel_rfl) (by kernel_rfl) (fun _ _ _ h => h) (Or.inl ⟨by rfl, ?_⟩) (by assumption) ?_
  rotate_left
  · (intro w hSw; (try dsimp only at hSw); go_simp; try with_reducible rfl)
  try simp only [Act.put]
  try simp only [List.setIfInBounds_toArray]
  try simp only [List.set_cons_succ]
  try simp only [List.set_cons_zero]
  refine wpAnyH_take (i := 3) (v := ?_) rfl (by kernel_rfl) (by kernel_rfl) (by kernel_rfl) (fun _ _ _ h => h) (Or.inl ⟨by rfl, ?_⟩) (by assumption) ?_
  rotate_left
  · (intro w hSw; (try dsimp only at hSw); go_simp; try with_reducible rfl)
  try simp only [Act.put]
  try simp only [List.setIfInBounds_toArray]
  try simp only [List.set_cons_succ]
  try simp only [List.set_cons_zero]
  refine wpAnyH_take (i := 4) (v := ?_) rfl (by kernel_rfl) (by kernel_rfl) (by kernel_rfl) (fun _ _ _ h => h) (Or.inl ⟨by rfl, ?_⟩) (by assumption) ?_
  rotate_left
  · (intro w hSw; (try dsimp only at hSw); go_simp; try with_reducible rfl)
  try simp only [Act.put]
  try simp only [List.setIfInBounds_toArray]
  try simp only [List.set_cons_succ]
  try simp only [List.set_cons_zero]
  refine wpAnyH_take (i := 5) (v := ?_) rfl (by kernel_rfl) (by kernel_rfl) (by kernel_rfl) (fun _ _ _ h => h) (Or.inl ⟨by rfl, ?_⟩) (by assumption) ?_
  rotate_left
  · (intro w hSw; (try dsimp only at hSw); go_simp; try with_reducible rfl)
  try simp only [Act.put]
  try simp only [List.setIfInBounds_toArray]
  try simp only [List.set_cons_succ]
  try simp only [List.set_cons_zero]
  refine wpAnyH_take (i := 6) (v := ?_) rfl (by kernel_rfl) (by kernel_rfl) (by kernel_rfl) (fun _ _ _ h => h) (Or.inl ⟨by rfl, ?_⟩) (by assumption) ?_
  rotate_left
  · (intro w hSw; (try dsimp only at hSw); go_simp; try with_reducible rfl)
  try simp only [Act.put]
  try simp only [List.setIfInBounds_toArray]
  try simp only [List.set_cons_succ]
  try simp only [List.set_cons_zero]
  refine wpAnyH_ready (rs := [7]) (by kernel_rfl) (by simp) (AllReadyH.cons rfl (fun K hK => ?_) AllReadyH.nil)
  go_simp
  refine (ref_bytes (hv1.all (Fr.refl All w1).drew) (by omega)).mono ?_
  rintro e w2 ⟨v2, rfl, o2, f2⟩
  obtain ⟨A2, k2, rfl⟩ := o2.length
  go_simp
  have F2 : Fr All w1 w2 := (Fr.refl All w1).drew.then_all f2
  refine hK.out _ _ (F2.cell trivial c3) (fun hHeld => ?_)
  clear hK K
  try simp only [Act.put]
  try simp only [List.setIfInBounds_toArray]
  try simp only [List.set_cons_succ]
  try simp only [List.set_cons_zero]
  refine wpAnyH_take (i := 8) (v := ?_) rfl (by kernel_rfl) (by kernel_rfl) (by kernel_rfl) (fun _ _ _ h => h) (Or.inl ⟨by rfl, ?_⟩) (by assumption) ?_
  rotate_left
  · (intro w hSw; (try dsimp only at hSw); go_simp; try with_reducible rfl)
  try simp only [Act.put]
  try simp only [List.setIfInBounds_toArray]
  try simp only [List.set_cons_succ]
  try simp only [List.set_cons_zero]
  refine wpAnyH_ready (rs := [9]) (by kernel_rfl) (by simp) (AllReadyH.cons rfl (fun K hK => ?_) AllReadyH.nil)
  go_simp
  have hsl2 : Sl kByte (fun x => x ≠ R ∧ T x) w2 (.slice A2 xs.length k2) xs := o2.plain_in fun b hb _ => hT1 b hb
  have hpp : Sl kBlk (fun x => x ≠ R ∧ T x) w2 (.slice PA pl pc) t.pend := by
    have := HP.out.all F2
    rwa [HPL.out] at this
  refine (with_call (x := (i, xs)) hpp hsl2 (by have := HPL.out; omega)).mono ?_
  rintro e w3 ⟨A3, k3, rfl, o3, f3⟩
  go_simp
  have F3 : Fr All w1 w3 := F2.trans f3
  refine hK.out _ _ (F3.cell trivial c3) (fun hHeld => ?_)
  clear hK K
  try simp only [Act.put]
  try simp only [List.setIfInBounds_toArray]
  try simp only [List.set_cons_succ]
  try simp only [List.set_cons_zero]
  refine wpAnyH_take (i := 10) (v := ?_) rfl (by kernel_rfl) (by kernel_rfl) (by kernel_rfl) (fun _ _ _ h => h) (Or.inl ⟨by rfl, ?_⟩) (by assumption) ?_
  rotate_left
  · (intro w hSw; (try dsimp only at hSw); go_simp; try with_reducible rfl)
  try simp only [Act.put]
  try simp only [List.setIfInBounds_toArray]
  try simp only [List.set_cons_succ]
  try simp only [List.set_cons_zero]
  refine wpAnyH_take (i := 11) (v := ?_) rfl (by kernel_rfl) (by kernel_rfl) (by kernel_rfl) (fun _ _ _ h => h) (Or.inl ⟨by rfl, ?_⟩) (by assumption) ?_
  rotate_left
  · (intro w hSw; (try dsimp only at hSw); go_simp; try with_reducible rfl)
  try simp only [Act.put]
  try simp only [List.setIfInBounds_toArray]
  try simp only [List.set_cons_succ]
  try simp only [List.set_cons_zero]
  have B3 := (F3.block _ (blk_lt HB.out) trivial).trans HB.out
  obtain ⟨e0, e1, e2, e3, e4, e5, ez⟩ := blk6 B3
  have HB3 := Lib.hid B3
  have HO3 := Lib.hid o3
  clear hHeld c0 c1 c2 c3 c4 c5 cz B3 o3 hsl2 hpp o2
  refine wpAnyH_done (by kernel_rfl) ?_ _
  show wpList _ _ _ _ _ _
  go_wp2_with fail
  go_ret
  have F5 : Fr (fun x => x ≠ R) w3 ((w3.setCell ⟨R, 3, none⟩ (.slice A3 (rins (i, xs) t.pend).length k3)).setCell ⟨R, 1, none⟩ (.int .i64 (t.calls + 1))) := ((Fr.refl _ _).setCell (fun m hm => by exact hm) _).setCell (fun m hm => by exact hm) _
  refine ⟨rfl, ⟨KA, kc, A3, k3, heap_setCell_same _ R 1 _ _ _ (heap_setCell_same _ R 3 _ _ _ HB3.out), (HK.out.all F3).move' F5 fun x hx _ => hx.1, ?_⟩, ((f1.trans (F3.mono fun _ _ => trivial)).trans F5)⟩
  exact (HO3.out.sl_in (T := fun x => x ≠ R ∧ T x) (fun b hb _ => hb) (fun b hb _ => hT1 b (Nat.le_trans F2.size hb))).move' F5 fun x hx _ => hx.1

/-! ### Sync -/
theorem rsync_down (h : Rk T w R r) (hf : r.fuse ≤ 9223372036854775807) (hu : r.power.down = true) :
    Calls Tryd.prog 46 #[.pointer (some ⟨R, 0, none⟩)] w fun e w' => e = .returned (.int .i64 110) ∧ Rk T w' R r.power ∧ Fr (fun x => x ≠ R) w w' := by
  have hc := rpower_call h hf
  rw [hu] at hc
  have HC := Lib.hid hc
  clear hc h hu
  go_enter Tryd.func46, Tryd.ntmps46
  go_wp2_with fail
  refine HC.out.mono ?_
  rintro e w1 ⟨rfl, h1, f1⟩
  have H1 := Lib.hid h1
  clear h1
  go_wp2_with fail
  go_ret
  exact ⟨rfl, H1.out, f1⟩

set_option hygiene false in
set_option maxRecDepth 100000 in
set_option maxHeartbeats 2000000 in
theorem rsync_ok (h : Rk T w R r) (hT : ∀ x, w.heap.size ≤ x → T x) (hf : r.fuse ≤ 9223372036854775807) (hu : r.power.down = false) (hn : r.kept.length + r.pend.length ≤ 1000000) (hc0 : 0 ≤ r.calls) (hc : r.calls ≤ 1000000) :
    Calls Tryd.prog 46 #[.pointer (some ⟨R, 0, none⟩)] w fun e w' => e = .returned (.int .i64 0) ∧ Rk T w' R { r.power with kept := rsync r.power.kept r.power.pend, pend := [], calls := r.power.calls + 1 } ∧ Fr (fun x => x ≠ R) w w' := by
  obtain ⟨g1, g2, g3, g4⟩ := r.power_same
  obtain ⟨t, ht⟩ : ∃ t, r.power = t := ⟨_, rfl⟩
  have hcall := rpower_call h hf
  rw [ht] at hcall hu g1 g2 g3 g4 ⊢
  rw [hu] at hcall
  rw [← g1, ← g2] at hn
  rw [← g3] at hc0 hc
  have hw : IntKind.i64.wrap (t.calls + 1) = t.calls + 1 := IntWalk.i64_in _ (by omega)
  have HC := Lib.hid hcall
  have HL := Lib.hid h.lt
  clear h ht hcall g1 g2 g3 g4 hu
  go_enter Tryd.func46, Tryd.ntmps46
  go_wp2_with fail
  refine HC.out.mono ?_
  rintro e w1 ⟨rfl, h1, f1⟩
  have hT1 : ∀ x, w1.heap.size ≤ x → x ≠ R ∧ T x := fun x hx => ⟨by have := f1.size; have := HL.out; omega, hT x (Nat.le_trans f1.size hx)⟩
  have H1 := Lib.hid h1
  obtain ⟨pl, hpl⟩ : ∃ pl, t.pend.length = pl := ⟨_, rfl⟩
  have HPL := Lib.hid hpl
  have hpl6 : pl ≤ 1000000 := by omega
  clear h1 hpl
  go_wp2_with fail
  go_loopw [3] (fun i wr => ∃ j : Nat, j ≤ pl ∧ i = .int .i64 j ∧ Hid (Rk T wr R { t with kept := rsync t.kept (t.pend.take j) }) ∧ Fr (fun x => x ≠ R) w1 wr) (fun i _ => pl - (intOf i).toNat)
  case atStart => exact ⟨0, Nat.zero_le _, rfl, H1, Fr.refl _ _⟩
  case round =>
    obtain ⟨j, hj, rfl, HR, FR⟩ := hrel
    obtain ⟨KA, kc, PA, pc, hb, hk, hp⟩ := HR.out
    dsimp only at hb hk hp
    obtain ⟨c0, c1, c2, c3, c4, c5, cz⟩ := blk6 hb
    have hkl : (rsync t.kept (t.pend.take j)).length ≤ 1000000 := by
      have := rsync_le (t.pend.take j) t.kept
      rw [List.length_take] at this
      omega
    obtain ⟨kl, hkl2⟩ : ∃ kl, (rsync t.kept (t.pend.take j)).length = kl := ⟨_, rfl⟩
    rw [hkl2] at c2 hkl hk
    rw [HPL.out] at c3 hp
    have HB := Lib.hid hb
    have HK := Lib.hid hk
    have HP := Lib.hid hp
    have HKL := Lib.hid hkl2
    clear hb hk hp hkl2
    by_cases hlt : j < pl
    · obtain ⟨p, hpj, _⟩ := get_of (l := t.pend) (k := j) (by rw [HPL.out]; exact hlt)
      obtain ⟨b, o, A1, n1, cc1, hPA, g0, g1, t1, _⟩ := blk_at HP.out hpj
      subst hPA
      have b0 : (0 : Int) ≤ (j : Int) := by omega
      have b1 : (j : Int) < (pl : Int) := by omega
      have HT1 := Lib.hid t1
      have HS := Lib.hid (rsync_snoc (k := t.kept) hpj)
      clear t1 hpj
      go_upto_region 6 with (fail)
      refine wp_region_last (S := fun w' => w'.cell? ⟨R, 2, none⟩ = some (.slice KA kl kc) ∧ w'.cell? ⟨R, 3, none⟩ = some (.slice (some ⟨b, o, none⟩) pl pc) ∧ w'.cell? ⟨b, o + j * 2, none⟩ = some (.int .i64 p.1) ∧ w'.cell? ⟨b, o + j * 2 + 1, none⟩ = some (.slice A1 n1 cc1)) 15 (by kernel_rfl) rfl (by kernel_rfl) ⟨c2, c3, g0, g1⟩ (fun hHeld => ?_)
      simp only [List.take_succ_cons, List.take_zero]
      refine wpAnyH_take (i := 0) (v := ?_) rfl (by kernel_rfl) (by kernel_rfl) (by kernel_rfl) (fun _ _ _ h => h) (Or.inl ⟨by rfl, ?_⟩) (by assumption) ?_
      rotate_left
      · (intro w hSw; (try dsimp only at hSw); go_simp; try with_reducible rfl)
      try simp only [Act.put]
      try simp only [List.setIfInBounds_toArray]
      try simp only [List.set_cons_succ]
      try simp only [List.set_cons_zero]
      refine wpAnyH_take (i := 1) (v := ?_) rfl (by kernel_rfl) (by kernel_rfl) (by kernel_rfl) (fun _ _ _ h => h) (Or.inl ⟨by rfl, ?_⟩) (by assumption) ?_
      rotate_left
      · (intro w hSw; (try dsimp only at hSw); go_simp; try with_reducible rfl)
      try simp only [Act.put]
      try simp only [List.setIfInBounds_toArray]
      try simp only [List.set_cons_succ]
      try simp only [List.set_cons_zero]
      refine wpAnyH_take (i := 2) (v := ?_) rfl (by kernel_rfl) (by kernel_rfl) (by kernel_rfl) (fun _ _ _ h => h) (Or.inl ⟨by rfl, ?_⟩) (by assumption) ?_
      rotate_left
      · (intro w hSw; (try dsimp only at hSw); go_simp; try with_reducible rfl)
      try simp only [Act.put]
      try simp only [List.setIfInBounds_toArray]
      try simp only [List.set_cons_succ]
      try simp only [List.set_cons_zero]
      refine wpAnyH_take (i := 3) (v := ?_) rfl (by kernel_rfl) (by kernel_rfl) (by kernel_rfl) (fun _ _ _ h => h) (Or.inl ⟨by rfl, ?_⟩) (by assumption) ?_
      rotate_left
      · (intro w hSw; (try dsimp only at hSw); go_simp; try with_reducible rfl)
      try simp only [Act.put]
      try simp only [List.setIfInBounds_toArray]
      try simp only [List.set_cons_succ]
      try simp only [List.set_cons_zero]
      refine wpAnyH_take (i := 4) (v := ?_) rfl (by kernel_rfl) (by kernel_rfl) (by kernel_rfl) (fun _ _ _ h => h) (Or.inl ⟨by rfl, ?_⟩) (by assumption) ?_
      rotate_left
      · (intro w hSw; (try dsimp only at hSw); go_simp; try with_reducible rfl)
      try simp only [Act.put]
      try simp only [List.setIfInBounds_toArray]
      try simp only [List.set_cons_succ]
      try simp only [List.set_cons_zero]
      refine wpAnyH_take (i := 5) (v := ?_) rfl (by kernel_rfl) (by kernel_rfl) (by kernel_rfl) (fun _ _ _ h => h) (Or.inl ⟨by rfl, ?_⟩) (by assumption) ?_
      rotate_left
      · (intro w hSw; (try dsimp only at hSw); go_simp; try with_reducible rfl)
      try simp only [Act.put]
      try simp only [List.setIfInBounds_toArray]
      try simp only [List.set_cons_succ]
      try simp only [List.set_cons_zero]
      refine wpAnyH_take (i := 6) (v := ?_) rfl (by kernel_rfl) (by kernel_rfl) (by kernel_rfl) (fun _ _ _ h => h) (Or.inl ⟨by rfl, ?_⟩) (by assumption) ?_
      rotate_left
      · (intro w hSw; (try dsimp only at hSw); go_simp; try with_reducible rfl)
      try simp only [Act.put]
      try simp only [List.setIfInBounds_toArray]
      try simp only [List.set_cons_succ]
      try simp only [List.set_cons_zero]
      refine wpAnyH_take (i := 7) (v := ?_) rfl (by kernel_rfl) (by kernel_rfl) (by kernel_rfl) (fun _ _ _ h => h) (Or.inl ⟨by rfl, ?_⟩) (by assumption) ?_
      rotate_left
      · (intro w hSw; (try dsimp only at hSw); go_simp; try with_reducible rfl)
      try simp only [Act.put]
      try simp only [List.setIfInBounds_toArray]
      try simp only [List.set_cons_succ]
      try simp only [List.set_cons_zero]
      refine wpAnyH_take (i := 8) (v := ?_) rfl (by kernel_rfl) (by kernel_rfl) (by kernel_rfl) (fun _ _ _ h => h) (Or.inl ⟨by rfl, ?_⟩) (by assumption) ?_
      rotate_left
      · (intro w hSw; (try dsimp only at hSw); go_simp; try with_reducible rfl)
      try simp only [Act.put]
      try simp only [List.setIfInBounds_toArray]
      try simp only [List.set_cons_succ]
      try simp only [List.set_cons_zero]
      refine wpAnyH_take (i := 9) (v := ?_) rfl (by kernel_rfl) (by kernel_rfl) (by kernel_rfl) (fun _ _ _ h => h) (Or.inl ⟨by rfl, ?_⟩) (by assumption) ?_
      rotate_left
      · (intro w hSw; (try dsimp only at hSw); go_simp; try with_reducible rfl)
      try simp only [Act.put]
      try simp only [List.setIfInBounds_toArray]
      try simp only [List.set_cons_succ]
      try simp only [List.set_cons_zero]
      refine wpAnyH_take (i := 10) (v := ?_) rfl (by kernel_rfl) (by kernel_rfl) (by kernel_rfl) (fun _ _ _ h => h) (Or.inl ⟨by rfl, ?_⟩) (by assumption) ?_
      rotate_left
      · (intro w hSw; (try dsimp only at hSw); go_simp; try with_reducible rfl)
      try simp only [Act.put]
      try simp only [List.setIfInBounds_toArray]
      try simp only [List.set_cons_succ]
      try simp only [List.set_cons_zero]
      refine wpAnyH_take (i := 11) (v := ?_) rfl (by kernel_rfl) (by kernel_rfl) (by kernel_rfl) (fun _ _ _ h => h) (Or.inl ⟨by rfl, ?_⟩) (by assumption) ?_
      rotate_left
      · (intro w hSw; (try dsimp only at hSw); go_simp; try with_reducible rfl)
      try simp only [Act.put]
      try simp only [List.setIfInBounds_toArray]
      try simp only [List.set_cons_succ]
      try simp only [List.set_cons_zero]
      refine wpAnyH_ready (rs := [12]) (by kernel_rfl) (by simp) (AllReadyH.cons rfl (fun K hK => ?_) AllReadyH.nil)
      go_simp
      refine (with_call (HK.out.all (Fr.refl All wr).drew) (HT1.out.all (Fr.refl All wr).drew) hkl).mono ?_
      rintro e w2 ⟨A2, k2, rfl, o2, f2⟩
      go_simp
      have F2 : Fr All wr w2 := (Fr.refl All wr).drew.then_all f2
      refine hK.out _ _ ⟨F2.cell trivial c2, F2.cell trivial c3, F2.cell trivial g0, F2.cell trivial g1⟩ (fun hHeld => ?_)
      clear hK K
      try simp only [Act.put]
      try simp only [List.setIfInBounds_toArray]
      try simp only [List.set_cons_succ]
      try simp only [List.set_cons_zero]
      refine wpAnyH_take (i := 13) (v := ?_) rfl (by kernel_rfl) (by kernel_rfl) (by kernel_rfl) (fun _ _ _ h => h) (Or.inl ⟨by rfl, ?_⟩) (by assumption) ?_
      rotate_left
      · (intro w hSw; (try dsimp only at hSw); go_simp; try with_reducible rfl)
      try simp only [Act.put]
      try simp only [List.setIfInBounds_toArray]
      try simp only [List.set_cons_succ]
      try simp only [List.set_cons_zero]
      refine wpAnyH_take (i := 14) (v := ?_) rfl (by kernel_rfl) (by kernel_rfl) (by kernel_rfl) (fun _ _ _ h => h) (Or.inl ⟨by rfl, ?_⟩) (by assumption) ?_
      rotate_left
      · (intro w hSw; (try dsimp only at hSw); go_simp; try with_reducible rfl)
      try simp only [Act.put]
      try simp only [List.setIfInBounds_toArray]
      try simp only [List.set_cons_succ]
      try simp only [List.set_cons_zero]
      have B2 := (F2.block _ (blk_lt HB.out) trivial).trans HB.out
      obtain ⟨e0, e1, e2, e3, e4, e5, ez⟩ := blk6 B2
      have HB2 := Lib.hid B2
      have HO2 := Lib.hid o2
      clear hHeld c0 c1 c2 c3 c4 c5 cz g0 g1 o2 B2
      refine wpAnyH_done (by kernel_rfl) ?_ _
      show wpList _ _ _ _ _ _
      go_wp2_with fail
      have F5 : Fr (fun x => x ≠ R) w2 (w2.setCell ⟨R, 2, none⟩ (.slice A2 (rins p (rsync t.kept (t.pend.take j))).length k2)) := (Fr.refl _ _).setCell (fun m hm => by exact hm) _
      have hRk : Rk T (w2.setCell ⟨R, 2, none⟩ (.slice A2 (rins p (rsync t.kept (t.pend.take j))).length k2)) R { t with kept := rsync t.kept (t.pend.take (j + 1)) } := by
        rw [HS.out]
        have hpp := HP.out
        rw [← HPL.out] at hpp
        exact ⟨A2, k2, _, pc, heap_setCell_same _ R 2 _ _ _ HB2.out, (HO2.out.sl_in (T := fun x => x ≠ R ∧ T x) (fun b hb _ => hb) (fun b hb _ => hT1 b (Nat.le_trans FR.size hb))).move' F5 fun x hx _ => hx.1, (hpp.all F2).move' F5 fun x hx _ => hx.1⟩
      have HR2 := Lib.hid hRk
      have FR2 := (FR.trans (F2.mono fun _ _ => trivial)).trans F5
      clear hRk
      go_roundw
      case rel => exact ⟨j + 1, by omega, by go_num, HR2, FR2⟩
      case measure => simp [intOf]; omega
    · obtain rfl : j = pl := by omega
      go_wp2_with fail
      go_ret
      have F5 : Fr (fun x => x ≠ R) wr ((wr.setCell ⟨R, 3, none⟩ (.slice none 0 0)).setCell ⟨R, 1, none⟩ (.int .i64 (t.calls + 1))) := ((Fr.refl _ _).setCell (fun m hm => by exact hm) _).setCell (fun m hm => by exact hm) _
      have hkk := HK.out
      have hbb := HB.out
      rw [← HKL.out, List.take_of_length_le (by rw [HPL.out]; exact Nat.le_refl _)] at hkk
      rw [List.take_of_length_le (by rw [HPL.out]; exact Nat.le_refl _)] at hbb
      exact ⟨rfl, ⟨KA, kc, none, 0, heap_setCell_same _ R 1 _ _ _ (heap_setCell_same _ R 3 _ _ _ hbb), hkk.move' F5 fun x hx _ => hx.1, Sl.nil_ _ _ _⟩, (f1.trans FR).trans F5⟩

/-! ### Crash -/
set_option hygiene false in
set_option maxRecDepth 100000 in
set_option maxHeartbeats 2000000 in
theorem rcrash_call (h : Rk T w R r) (hT : ∀ x, w.heap.size ≤ x → T x) {v : Value} {ps : List Int} {S : Nat → Prop} (hv : Sl kInt S w v ps) (hS : ∀ x, S x → x < w.heap.size → x ≠ R) (hn : r.kept.length + r.pend.length ≤ 1000000) (hl : ps.length ≤ 1000000) :
    Calls Tryd.prog 48 #[.pointer (some ⟨R, 0, none⟩), v] w fun e w' => e = .returned (.tuple #[]) ∧ Rk T w' R { r with kept := rpick odd64 r.kept r.pend ps r.pend.length, pend := [], down := false, fuse := 0 } ∧ Fr (fun x => x ≠ R) w w' := by
  obtain ⟨VA, vn, vc, rfl, ev, _⟩ := hv.open_
  have HV := Lib.hid (hv.mono hS)
  have EV := Lib.hid ev
  have HL := Lib.hid h.lt
  have H1 := Lib.hid h
  have hT1 : ∀ x, w.heap.size ≤ x → x ≠ R ∧ T x := fun x hx => ⟨by have := HL.out; omega, hT x hx⟩
  obtain ⟨pl, hpl⟩ : ∃ pl, r.pend.length = pl := ⟨_, rfl⟩
  rw [hpl] at hn ⊢
  have HPL := Lib.hid hpl
  clear h hpl hv ev
  go_enter Tryd.func48, Tryd.ntmps48
  go_wp2_with fail
  go_loopw [4] (fun i wr => ∃ j : Nat, j ≤ pl ∧ i = .int .i64 j ∧ Hid (Rk T wr R { r with kept := rpick odd64 r.kept r.pend ps j }) ∧ Fr (fun x => x ≠ R) w wr) (fun i _ => pl - (intOf i).toNat)
  case atStart => exact ⟨0, Nat.zero_le _, rfl, H1, Fr.refl _ _⟩
  case round =>
    obtain ⟨j, hj, rfl, HR, FR⟩ := hrel
    obtain ⟨KA, kc, PA, pc, hb, hk, hp⟩ := HR.out
    dsimp only at hb hk hp
    obtain ⟨c0, c1, c2, c3, c4, c5, cz⟩ := blk6 hb
    have hkl : (rpick odd64 r.kept r.pend ps j).length ≤ 1000000 := by
      have := rpick_le odd64 r.kept r.pend ps j
      omega
    obtain ⟨kl, hkl2⟩ : ∃ kl, (rpick odd64 r.kept r.pend ps j).length = kl := ⟨_, rfl⟩
    rw [hkl2] at c2 hkl hk
    rw [HPL.out] at c3 hp
    have HB := Lib.hid hb
    have HK := Lib.hid hk
    have HP := Lib.hid hp
    have HKL := Lib.hid hkl2
    clear hb hk hp hkl2
    by_cases hlt : j < pl
    · obtain ⟨p, hpj, _⟩ := get_of (l := r.pend) (k := j) (by rw [HPL.out]; exact hlt)
      obtain ⟨b, o, A1, n1, cc1, hPA, g0, g1, t1, _⟩ := blk_at HP.out hpj
      subst hPA
      have b0 : (0 : Int) ≤ (j : Int) := by omega
      have b1 : (j : Int) < (pl : Int) := by omega
      have HT1 := Lib.hid t1
      have hgd : r.pend.getD j (0, []) = p := by rw [List.getD_eq_getElem?_getD, hpj]; rfl
      have HG := Lib.hid hgd
      clear t1 hpj hgd
      by_cases hp : j < vn
      · obtain ⟨q, hqj, _⟩ := get_of (l := ps) (k := j) (by rw [EV.out]; exact hp)
        obtain ⟨qa, qo, rfl, cp⟩ := (HV.out.move FR).at1 hqj
        have b2 : (j : Int) < (vn : Int) := by omega
        cases hz : (bits .and .i64 q 1 == 1) with
        | true =>
          have hip : isPick odd64 ps j = true := by
            unfold isPick
            rw [hqj]
            exact hz
          have HS : Hid (rpick odd64 r.kept r.pend ps (j + 1) = rins p (rpick odd64 r.kept r.pend ps j)) := Lib.hid (by rw [rpick, hip, if_pos rfl, HG.out])
          clear hqj hip
          go_upto_region 4 with (fail)
          refine wp_region_last (S := fun w' => w'.cell? ⟨R, 2, none⟩ = some (.slice KA kl kc) ∧ w'.cell? ⟨R, 3, none⟩ = some (.slice (some ⟨b, o, none⟩) pl pc) ∧ w'.cell? ⟨b, o + j * 2, none⟩ = some (.int .i64 p.1) ∧ w'.cell? ⟨b, o + j * 2 + 1, none⟩ = some (.slice A1 n1 cc1)) 15 (by kernel_rfl) rfl (by kernel_rfl) ⟨c2, c3, g0, g1⟩ (fun hHeld => ?_)
          simp only [List.take_succ_cons, List.take_zero]
          refine wpAnyH_take (i := 0) (v := ?_) rfl (by kernel_rfl) (by kernel_rfl) (by kernel_rfl) (fun _ _ _ h => h) (Or.inl ⟨by rfl, ?_⟩) (by assumption) ?_
          rotate_left
          · (intro w hSw; (try dsimp only at hSw); go_simp; try with_reducible rfl)
          try simp only [Act.put]
          try simp only [List.setIfInBounds_toArray]
          try simp only [List.set_cons_succ]
          try simp only [List.set_cons_zero]
          refine wpAnyH_take (i := 1) (v := ?_) rfl (by kernel_rfl) (by kernel_rfl) (by kernel_rfl) (fun _ _ _ h => h) (Or.inl ⟨by rfl, ?_⟩) (by assumption) ?_
          rotate_left
          · (intro w hSw; (try dsimp only at hSw); go_simp; try with_reducible rfl)
          try simp only [Act.put]
          try simp only [List.setIfInBounds_toArray]
          try simp only [List.set_cons_succ]
          try simp only [List.set_cons_zero]
          refine wpAnyH_take (i := 2) (v := ?_) rfl (by kernel_rfl) (by kernel_rfl) (by kernel_rfl) (fun _ _ _ h => h) (Or.inl ⟨by rfl, ?_⟩) (by assumption) ?_
          rotate_left
          · (intro w hSw; (try dsimp only at hSw); go_simp; try with_reducible rfl)
          try simp only [Act.put]
          try simp only [List.setIfInBounds_toArray]
          try simp only [List.set_cons_succ]
          try simp only [List.set_cons_zero]
          refine wpAnyH_take (i := 3) (v := ?_) rfl (by kernel_rfl) (by kernel_rfl) (by kernel_rfl) (fun _ _ _ h => h) (Or.inl ⟨by rfl, ?_⟩) (by assumption) ?_
          rotate_left
          · (intro w hSw; (try dsimp only at hSw); go_simp; try with_reducible rfl)
          try simp only [Act.put]
          try simp only [List.setIfInBounds_toArray]
          try simp only [List.set_cons_succ]
          try simp only [List.set_cons_zero]
          refine wpAnyH_take (i := 4) (v := ?_) rfl (by kernel_rfl) (by kernel_rfl) (by kernel_rfl) (fun _ _ _ h => h) (Or.inl ⟨by rfl, ?_⟩) (by assumption) ?_
          rotate_left
          · (intro w hSw; (try dsimp only at hSw); go_simp; try with_reducible rfl)
          try simp only [Act.put]
          try simp only [List.setIfInBounds_toArray]
          try simp only [List.set_cons_succ]
          try simp only [List.set_cons_zero]
          refine wpAnyH_take (i := 5) (v := ?_) rfl (by kernel_rfl) (by kernel_rfl) (by kernel_rfl) (fun _ _ _ h => h) (Or.inl ⟨by rfl, ?_⟩) (by assumption) ?_
          rotate_left
          · (intro w hSw; (try dsimp only at hSw); go_simp; try with_reducible rfl)
          try simp only [Act.put]
          try simp only [List.setIfInBounds_toArray]
          try simp only [List.set_cons_succ]
          try simp only [List.set_cons_zero]
          refine wpAnyH_take (i := 6) (v := ?_) rfl (by kernel_rfl) (by kernel_rfl) (by kernel_rfl) (fun _ _ _ h => h) (Or.inl ⟨by rfl, ?_⟩) (by assumption) ?_
          rotate_left
          · (intro w hSw; (try dsimp only at hSw); go_simp; try with_reducible rfl)
          try simp only [Act.put]
          try simp only [List.setIfInBounds_toArray]
          try simp only [List.set_cons_succ]
          try simp only [List.set_cons_zero]
          refine wpAnyH_take (i := 7) (v := ?_) rfl (by kernel_rfl) (by kernel_rfl) (by kernel_rfl) (fun _ _ _ h => h) (Or.inl ⟨by rfl, ?_⟩) (by assumption) ?_
          rotate_left
          · (intro w hSw; (try dsimp only at hSw); go_simp; try with_reducible rfl)
          try simp only [Act.put]
          try simp only [List.setIfInBounds_toArray]
          try simp only [List.set_cons_succ]
          try simp only [List.set_cons_zero]
          refine wpAnyH_take (i := 8) (v := ?_) rfl (by kernel_rfl) (by kernel_rfl) (by kernel_rfl) (fun _ _ _ h => h) (Or.inl ⟨by rfl, ?_⟩) (by assumption) ?_
          rotate_left
          · (intro w hSw; (try dsimp only at hSw); go_simp; try with_reducible rfl)
          try simp only [Act.put]
          try simp only [List.setIfInBounds_toArray]
          try simp only [List.set_cons_succ]
          try simp only [List.set_cons_zero]
          refine wpAnyH_take (i := 9) (v := ?_) rfl (by kernel_rfl) (by kernel_rfl) (by kernel_rfl) (fun _ _ _ h => h) (Or.inl ⟨by rfl, ?_⟩) (by assumption) ?_
          rotate_left
          · (intro w hSw; (try dsimp only at hSw); go_simp; try with_reducible rfl)
          try simp only [Act.put]
          try simp only [List.setIfInBounds_toArray]
          try simp only [List.set_cons_succ]
          try simp only [List.set_cons_zero]
          refine wpAnyH_take (i := 10) (v := ?_) rfl (by kernel_rfl) (by kernel_rfl) (by kernel_rfl) (fun _ _ _ h => h) (Or.inl ⟨by rfl, ?_⟩) (by assumption) ?_
          rotate_left
          · (intro w hSw; (try dsimp only at hSw); go_simp; try with_reducible rfl)
          try simp only [Act.put]
          try simp only [List.setIfInBounds_toArray]
          try simp only [List.set_cons_succ]
          try simp only [List.set_cons_zero]
          refine wpAnyH_take (i := 11) (v := ?_) rfl (by kernel_rfl) (by kernel_rfl) (by kernel_rfl) (fun _ _ _ h => h) (Or.inl ⟨by rfl, ?_⟩) (by assumption) ?_
          rotate_left
          · (intro w hSw; (try dsimp only at hSw); go_simp; try with_reducible rfl)
          try simp only [Act.put]
          try simp only [List.setIfInBounds_toArray]
          try simp only [List.set_cons_succ]
          try simp only [List.set_cons_zero]
          refine wpAnyH_ready (rs := [12]) (by kernel_rfl) (by simp) (AllReadyH.cons rfl (fun K hK => ?_) AllReadyH.nil)
          go_simp
          refine (with_call (HK.out.all (Fr.refl All wr).drew) (HT1.out.all (Fr.refl All wr).drew) hkl).mono ?_
          rintro e w2 ⟨A2, k2, rfl, o2, f2⟩
          go_simp
          have F2 : Fr All wr w2 := (Fr.refl All wr).drew.then_all f2
          refine hK.out _ _ ⟨F2.cell trivial c2, F2.cell trivial c3, F2.cell trivial g0, F2.cell trivial g1⟩ (fun hHeld => ?_)
          clear hK K
          try simp only [Act.put]
          try simp only [List.setIfInBounds_toArray]
          try simp only [List.set_cons_succ]
          try simp only [List.set_cons_zero]
          refine wpAnyH_take (i := 13) (v := ?_) rfl (by kernel_rfl) (by kernel_rfl) (by kernel_rfl) (fun _ _ _ h => h) (Or.inl ⟨by rfl, ?_⟩) (by assumption) ?_
          rotate_left
          · (intro w hSw; (try dsimp only at hSw); go_simp; try with_reducible rfl)
          try simp only [Act.put]
          try simp only [List.setIfInBounds_toArray]
          try simp only [List.set_cons_succ]
          try simp only [List.set_cons_zero]
          refine wpAnyH_take (i := 14) (v := ?_) rfl (by kernel_rfl) (by kernel_rfl) (by kernel_rfl) (fun _ _ _ h => h) (Or.inl ⟨by rfl, ?_⟩) (by assumption) ?_
          rotate_left
          · (intro w hSw; (try dsimp only at hSw); go_simp; try with_reducible rfl)
          try simp only [Act.put]
          try simp only [List.setIfInBounds_toArray]
          try simp only [List.set_cons_succ]
          try simp only [List.set_cons_zero]
          have B2 := (F2.block _ (blk_lt HB.out) trivial).trans HB.out
          obtain ⟨e0, e1, e2, e3, e4, e5, ez⟩ := blk6 B2
          have HB2 := Lib.hid B2
          have HO2 := Lib.hid o2
          clear hHeld c0 c1 c2 c3 c4 c5 cz g0 g1 o2 B2
          refine wpAnyH_done (by kernel_rfl) ?_ _
          show wpList _ _ _ _ _ _
          go_wp2_with fail
          have F5 : Fr (fun x => x ≠ R) w2 (w2.setCell ⟨R, 2, none⟩ (.slice A2 (rins p (rpick odd64 r.kept r.pend ps j)).length k2)) := (Fr.refl _ _).setCell (fun m hm => by exact hm) _
          have hRk : Rk T (w2.setCell ⟨R, 2, none⟩ (.slice A2 (rins p (rpick odd64 r.kept r.pend ps j)).length k2)) R { r with kept := rpick odd64 r.kept r.pend ps (j + 1) } := by
            rw [HS.out]
            have hpp := HP.out
            rw [← HPL.out] at hpp
            exact ⟨A2, k2, _, pc, heap_setCell_same _ R 2 _ _ _ HB2.out, (HO2.out.sl_in (T := fun x => x ≠ R ∧ T x) (fun b hb _ => hb) (fun b hb _ => hT1 b (Nat.le_trans FR.size hb))).move' F5 fun x hx _ => hx.1, (hpp.all F2).move' F5 fun x hx _ => hx.1⟩
          have HR2 := Lib.hid hRk
          have FR2 := (FR.trans (F2.mono fun _ _ => trivial)).trans F5
          clear hRk
          go_roundw
          case rel => exact ⟨j + 1, by omega, by go_num, HR2, FR2⟩
          case measure => simp [intOf]; omega
        | false =>
          have hip : isPick odd64 ps j = false := by
            unfold isPick
            rw [hqj]
            exact hz
          have hRk : Rk T wr R { r with kept := rpick odd64 r.kept r.pend ps (j + 1) } := by
            rw [rpick, hip, if_neg (by simp)]
            exact HR.out
          have HR2 := Lib.hid hRk
          clear hRk hip hqj
          go_wp2_with fail
          go_roundw
          case rel => exact ⟨j + 1, by omega, by go_num, HR2, FR⟩
          case measure => simp [intOf]; omega
      · have hip : isPick odd64 ps j = false := by
          unfold isPick
          rw [List.getElem?_eq_none (by rw [EV.out]; omega)]
        have b2 : decide ((j : Int) < (vn : Int)) = false := decide_eq_false (by omega)
        have hRk : Rk T wr R { r with kept := rpick odd64 r.kept r.pend ps (j + 1) } := by
          rw [rpick, hip, if_neg (by simp)]
          exact HR.out
        have HR2 := Lib.hid hRk
        clear hRk hip
        go_wp2_with fail
        go_roundw
        case rel => exact ⟨j + 1, by omega, by go_num, HR2, FR⟩
        case measure => simp [intOf]; omega
    · obtain rfl : j = pl := by omega
      go_wp2_with fail
      go_end0
      have F5 : Fr (fun x => x ≠ R) wr (((wr.setCell ⟨R, 3, none⟩ (.slice none 0 0)).setCell ⟨R, 5, none⟩ (.bool false)).setCell ⟨R, 4, none⟩ (.int .i64 0)) := (((Fr.refl _ _).setCell (fun m hm => by exact hm) _).setCell (fun m hm => by exact hm) _).setCell (fun m hm => by exact hm) _
      have hkk := HK.out
      rw [← HKL.out] at hkk
      exact ⟨rfl, ⟨KA, kc, none, 0, heap_setCell_same _ R 4 _ _ _ (heap_setCell_same _ R 5 _ _ _ (heap_setCell_same _ R 3 _ _ _ HB.out)), hkk.move' F5 fun x hx _ => hx.1, Sl.nil_ _ _ _⟩, FR.trans F5⟩
end
end Go.Proofs.YteikddopeplomaaDoor
