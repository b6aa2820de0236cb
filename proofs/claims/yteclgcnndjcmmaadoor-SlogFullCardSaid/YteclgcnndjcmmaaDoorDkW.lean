/- The disk's functions: up, New, Write, Read, Sync and the small ones. -/
import Derived.Test.YteclgcnndjcmmaaDoorDk
import Derived.Test.YteclgcnndjcmmaaDoorMc
import Derived.Test.YteclgcnndjcmmaaDoorLast3
import Derived.IntWalk
import Derived.Carry
import Derived.Deep.QuietTactic
import Derived.BigQuiet
import Derived.Deep.RegionHeld3
import Derived.Deep.Cut
namespace Go.Proofs.YteclgcnndjcmmaaDoor
open Go.RowKit Go.Maps
variable {G : Nat → Prop}

theorem zeroRow (w : World) : (zeroValue 34).run Tryd.prog w = .ok (.slice none 0 0) w := by kernel_rfl

set_option maxRecDepth 100000 in
set_option maxHeartbeats 1000000 in
theorem up_call {w : World} {B bs bp : Nat} {s : DSt} (h : Dk G w B bs bp s) (ha : s.arm ≤ 9223372036854775807) :
    Calls Tryd.prog 70 #[.pointer (some ⟨B, 0, none⟩)] w fun e w' => e = .returned (.bool (!s.up.down)) ∧ Dk G w' B bs bp s.up ∧ Fr (fun x => x ≠ B) w w' := by
  obtain ⟨c0, c1, c2, c3, c4, c5, cz⟩ : _ ∧ _ ∧ _ ∧ _ ∧ _ ∧ _ ∧ _ := ⟨h.c0, h.c1, h.c2, h.c3, h.c4, h.c5, h.cz⟩
  have H := Lib.hid h
  clear h
  cases hd : s.down with
  | true =>
    rw [hd] at c5
    have hu : s.up = s := by simp [DSt.up, hd]
    have Hu := Lib.hid hu
    have Hd := Lib.hid hd
    clear hu hd
    go_enter Tryd.func70, Tryd.ntmps70
    go_wp2_with fail
    go_ret
    rw [Hu.out, Hd.out]
    exact ⟨rfl, H.out, Fr.refl _ _⟩
  | false =>
    rw [hd] at c5
    by_cases hp : 0 < s.arm
    · have hg : decide (s.arm > 0) = true := decide_eq_true hp
      have hw : IntKind.i64.wrap (s.arm - 1) = s.arm - 1 := IntWalk.i64_in _ (by omega)
      have hu : s.up = { s with arm := s.arm - 1, down := decide (s.arm - 1 = 0) } := by simp [DSt.up, hd, hp]
      obtain ⟨z, hz⟩ : ∃ z : Bool, (s.arm - 1 == 0) = z := ⟨_, rfl⟩
      have hz2 : decide (s.arm - 1 = 0) = z := by
        rw [← hz, Bool.eq_iff_iff, decide_eq_true_eq, beq_iff_eq]
      rw [hz2] at hu
      have Hu := Lib.hid hu
      clear hu hd hp hz2
      go_enter Tryd.func70, Tryd.ntmps70
      go_wp2_with fail
      go_ret
      rw [Hu.out]
      refine ⟨rfl, H.out.cells ?_ rfl rfl rfl rfl ?_ ?_ ?_ ?_ ?_ ?_ ?_, ?_⟩
      · repeat (first | (with_reducible exact Fr.refl _ _) | with_reducible refine Fr.setCell ?_ (fun m hm => by exact hm) _)
      · go_simp
      · go_simp
      · go_simp
      · go_simp
      · go_simp
      · go_simp
      · intro j
        go_simp
      · repeat (first | (with_reducible exact Fr.refl _ _) | with_reducible refine Fr.setCell ?_ (fun m hm => by exact hm) _)
    · have hg : decide (s.arm > 0) = false := decide_eq_false hp
      have hu : s.up = s := by simp [DSt.up, hp]
      have Hu := Lib.hid hu
      have Hd := Lib.hid hd
      clear hu hd hp
      go_enter Tryd.func70, Tryd.ntmps70
      go_wp2_with fail
      go_ret
      rw [Hu.out, Hd.out]
      exact ⟨rfl, H.out, Fr.refl _ _⟩

set_option maxRecDepth 100000 in
theorem new_call {n : Int} (w : World) (h0 : 1 ≤ n) (h1 : n ≤ 16384) :
    Calls Tryd.prog 8 #[.int .i64 n] w fun e w' => ∃ B bs bp, e = .returned (.tuple #[.pointer (some ⟨B, 0, none⟩), .nilIface]) ∧ w.heap.size ≤ B ∧ w.heap.size ≤ bs ∧ w.heap.size ≤ bp ∧ Dk (fun _ => False) w' B bs bp ⟨n, fun _ => none, 0, fun _ => none, 0, 0, 0, false⟩ ∧ Fr All w w' := by
  have hmm := @run_makeMap Tryd.prog
  have d1 : decide (n < 1) = false := decide_eq_false (by omega)
  have d2 : decide (n > 16384) = false := decide_eq_false (by omega)
  go_enter Tryd.func8, Tryd.ntmps8
  go_wp2_with fail
  go_ret2
  have C := (.cells #[.int .i64 n, .map (some w.heap.size), .map (some (w.heap.size + 1)), .int .i64 0, .int .i64 0, .bool false] 59 : Obj)
  have e1 : (w.alloc (.map #[] 0)).heap.size = w.heap.size + 1 := by simp
  have e2 : ((w.alloc (.map #[] 0)).alloc (.map #[] 0)).heap.size = w.heap.size + 1 + 1 := by simp
  have B := heap_alloc_new ((w.alloc (.map #[] 0)).alloc (.map #[] 0)) (.cells #[.int .i64 n, .map (some w.heap.size), .map (some (w.heap.size + 1)), .int .i64 0, .int .i64 0, .bool false] 59)
  rw [e2] at B
  obtain ⟨b0, b1, b2, b3, b4, b5, bz⟩ := blk6 B
  have f2 := (Fr.refl All ((w.alloc (.map #[] 0)).alloc (.map #[] 0))).alloc (.cells #[.int .i64 n, .map (some w.heap.size), .map (some (w.heap.size + 1)), .int .i64 0, .int .i64 0, .bool false] 59)
  have m1 := ((MapIs.made (P := Tryd.prog) (K := 3) w (OffG (fun _ => False) (w.heap.size + 1 + 1) w.heap.size (w.heap.size + 1))).all ((Fr.refl All _).alloc (.map #[] 0))).all f2
  have m2 := (MapIs.made (P := Tryd.prog) (K := 3) (w.alloc (.map #[] 0)) (OffG (fun _ => False) (w.heap.size + 1 + 1) w.heap.size (w.heap.size + 1))).all f2
  rw [e1] at m2
  exact ⟨w.heap.size + 1 + 1, w.heap.size, w.heap.size + 1, rfl, by omega, Nat.le_refl _, by omega, ⟨b0, b1, b2, b3, b4, b5, bz, m1, m2, by omega, by omega, by omega, fun x hx => hx.elim⟩, (((Fr.refl All w).alloc _).alloc _).alloc _⟩

/-- Behind a Write that did well. -/
def DSt.wrote (s : DSt) (i : Int) (xs : List UInt8) : DSt := { s.up with pen := upd s.up.pen i xs, np := (if (s.up.pen i).isSome then s.up.np else s.up.np + 1), calls := s.up.calls + 1 }

set_option hygiene false in
set_option maxRecDepth 100000 in
set_option maxHeartbeats 2000000 in
theorem write_call {w : World} {B bs bp : Nat} {s : DSt} {i : Int} {v : Value} {xs : List UInt8} {S : Nat → Prop} (h : Dk G w B bs bp s) (hv : Sl kByte S w v xs) (hS : ∀ x, S x → x < w.heap.size → x ≠ B) (ha : s.arm ≤ 9223372036854775807) (hu : s.up.down = false) (h0 : 0 ≤ i) (h1 : i < s.blocks) (hb : s.blocks ≤ 16384) (hl : xs.length ≤ 256) (hn : s.np ≤ 100000) (hc0 : 0 ≤ s.calls) (hc : s.calls ≤ 1000000) :
    Calls Tryd.prog 45 #[.pointer (some ⟨B, 0, none⟩), .int .i64 i, v] w fun e w' => e = .returned .nilIface ∧
      Dk G w' B bs bp (s.wrote i xs) ∧ Fr (Off B bs bp) w w' := by
  obtain ⟨A, n, c, rfl, en, _⟩ := hv.open_
  have hup : s.up.pen = s.pen ∧ s.up.np = s.np ∧ s.up.calls = s.calls ∧ s.up.blocks = s.blocks := by
    unfold DSt.up
    split <;> exact ⟨rfl, rfl, rfl, rfl⟩
  obtain ⟨g1, g2, g3, g4⟩ := hup
  obtain ⟨t, ht⟩ : ∃ t, s.up = t := ⟨_, rfl⟩
  have hcall := up_call h ha
  have hwr : s.wrote i xs = { t with pen := upd t.pen i xs, np := (if (t.pen i).isSome then t.np else t.np + 1), calls := t.calls + 1 } := by
    unfold DSt.wrote
    rw [ht]
  have HW := Lib.hid hwr
  rw [ht] at hcall hu g1 g2 g3 g4
  rw [hu] at hcall
  have hn' : t.np < 1000000 := by omega
  have d1 : decide (i < 0) = false := decide_eq_false (by omega)
  have d2 : decide (i ≥ t.blocks) = false := decide_eq_false (by omega)
  have d3 : decide ((n : Int) > 256) = false := decide_eq_false (by omega)
  have hw : IntKind.i64.wrap (t.calls + 1) = t.calls + 1 := IntWalk.i64_in _ (by omega)
  have H := Lib.hid h
  have HC := Lib.hid hcall
  clear g1 g2 hwr
  rw [← g3] at hc hc0
  rw [← g4] at h1 hb
  have hi64 : In64 i := in64_of (by omega) (by omega)
  clear h ht hcall g3 g4
  go_enter Tryd.func45, Tryd.ntmps45
  go_wp2_with fail
  refine HC.out.mono ?_
  rintro e w1 ⟨rfl, h1', f1⟩
  obtain ⟨c0, c1, c2, c3, c4, c5, cz⟩ : _ ∧ _ ∧ _ ∧ _ ∧ _ ∧ _ ∧ _ := ⟨h1'.c0, h1'.c1, h1'.c2, h1'.c3, h1'.c4, h1'.c5, h1'.cz⟩
  have H1 := Lib.hid h1'
  have hv1 : Sl kByte (fun _ => True) w1 (.slice A n c) xs := (hv.move' f1 hS).mono fun _ _ _ => trivial
  clear h1'
  go_upto_region 7 with (fail)
  refine wp_region_last (S := fun w' => w'.cell? ⟨B, 2, none⟩ = some (.map (some bp))) 7 (by kernel_rfl) rfl (by kernel_rfl) c2 (fun hHeld => ?_)
  simp only [List.take_succ_cons, List.take_zero]
  refine wpAnyH_take (i := 0) (v := ?_) rfl (by kernel_rfl) (by kernel_rfl) (by kernel_rfl) (fun _ _ _ h => h) (Or.inl ⟨by rfl, ?_⟩) (by assumption) ?_
  rotate_left
  · (intro w hSw; (try dsimp only at hSw); go_simp; try with_reducible rfl)
  try simp only [Act.put]
  try simp only [List.setIfInBounds_toArray]
  try simp only [List.set_cons_succ]
  try simp only [List.set_cons_zero]
  refine wpAnyH_take (i := 1) (v := ?_) rfl (by kernel_rfl) (by kernel_rfl) (by kernel_rfl) (fun _ _ _ h => h) (Or.inl ⟨by rfl, ?_⟩) (by assumption) ?_
  rotate_left
  · (intro w hSw; (try dsimp only at hSw); go_simp; try with_reducible rfl)
  try simp only [Act.put]
  try simp only [List.setIfInBounds_toArray]
  try simp only [List.set_cons_succ]
  try simp only [List.set_cons_zero]
  refine wpAnyH_take (i := 2) (v := ?_) rfl (by kernel_rfl) (by kernel_rfl) (by kernel_rfl) (fun _ _ _ h => h) (Or.inl ⟨by rfl, ?_⟩) (by assumption) ?_
  rotate_left
  · (intro w hSw; (try dsimp only at hSw); go_simp; try with_reducible rfl)
  try simp only [Act.put]
  try simp only [List.setIfInBounds_toArray]
  try simp only [List.set_cons_succ]
  try simp only [List.set_cons_zero]
  refine wpAnyH_take (i := 3) (v := ?_) rfl (by kernel_rfl) (by kernel_rfl) (by kernel_rfl) (fun _ _ _ h => h) (Or.inl ⟨by rfl, ?_⟩) (by assumption) ?_
  rotate_left
  · (intro w hSw; (try dsimp only at hSw); go_simp; try with_reducible rfl)
  try simp only [Act.put]
  try simp only [List.setIfInBounds_toArray]
  try simp only [List.set_cons_succ]
  try simp only [List.set_cons_zero]
  refine wpAnyH_take (i := 4) (v := ?_) rfl (by kernel_rfl) (by kernel_rfl) (by kernel_rfl) (fun _ _ _ h => h) (Or.inl ⟨by rfl, ?_⟩) (by assumption) ?_
  rotate_left
  · (intro w hSw; (try dsimp only at hSw); go_simp; try with_reducible rfl)
  try simp only [Act.put]
  try simp only [List.setIfInBounds_toArray]
  try simp only [List.set_cons_succ]
  try simp only [List.set_cons_zero]
  refine wpAnyH_take (i := 5) (v := ?_) rfl (by kernel_rfl) (by kernel_rfl) (by kernel_rfl) (fun _ _ _ h => h) (Or.inl ⟨by rfl, ?_⟩) (by assumption) ?_
  rotate_left
  · (intro w hSw; (try dsimp only at hSw); go_simp; try with_reducible rfl)
  try simp only [Act.put]
  try simp only [List.setIfInBounds_toArray]
  try simp only [List.set_cons_succ]
  try simp only [List.set_cons_zero]
  refine wpAnyH_ready (rs := [6]) (by kernel_rfl) (by simp) (AllReadyH.cons rfl (fun K hK => ?_) AllReadyH.nil)
  go_simp
  refine (clone_bytes (hv1.all (Fr.refl All w1).drew) (by omega)).mono ?_
  rintro e w2 ⟨A2, k2, rfl, o2, f2⟩
  go_simp
  have F2 : Fr All w1 w2 := (Fr.refl All w1).drew.then_all f2
  refine hK.out _ _ (F2.cell trivial c2) (fun hHeld => ?_)
  clear hK K
  try simp only [Act.put]
  try simp only [List.setIfInBounds_toArray]
  try simp only [List.set_cons_succ]
  try simp only [List.set_cons_zero]
  have H2 := Lib.hid (H1.out.all F2)
  have hsl : Sl kByte (OffG G B bs bp) w2 (.slice A2 xs.length k2) xs := o2.plain_in fun b hb' _ => ⟨⟨by have := H1.out.lt; have e : w1.drew.heap.size = w1.heap.size := rfl; omega, by have := H1.out.syn.lt; have e : w1.drew.heap.size = w1.heap.size := rfl; omega, by have := H1.out.pen.lt; have e : w1.drew.heap.size = w1.heap.size := rfl; omega⟩, fun hg => by have := H1.out.gg _ hg; have e : w1.drew.heap.size = w1.heap.size := rfl; omega⟩
  obtain ⟨w3, hr, hp, f3⟩ := H2.out.pen.put Tryd.underlying3 Tryd.underlying57 (k := i) hi64 hn' hsl (fun x hx => hx.1.2.2)
  rw [en] at hr
  have HP := Lib.hid hp
  have q3 := f3.cell (p := ⟨B, 3, none⟩) H2.out.n2 H2.out.c3
  have qz : ∀ j, w3.frozen? ⟨B, j, none⟩ = false := fun j => (World.frozen?_of_block (a := ⟨B, j, none⟩) (f3.block _ H2.out.lt H2.out.n2)).trans (H2.out.cz j)
  clear hp hHeld c0 c1 c2 c3 c4 c5 cz
  refine wpAnyH_done (by kernel_rfl) ?_ _
  show wpList _ _ _ _ _ _
  go_wp2_with fail
  go_ret
  have D3 : Dk G w3 B bs bp { t with pen := upd t.pen i xs, np := (if (t.pen i).isSome then t.np else t.np + 1) } := H2.out.stays f3 H2.out.n2 rfl rfl rfl rfl (H2.out.syn.move f3 H2.out.n3 fun x hx _ => hx.1.2.2) HP.out
  obtain ⟨c0, c1, c2, c3, c4, c5, cz⟩ : _ ∧ _ ∧ _ ∧ _ ∧ _ ∧ _ ∧ _ := ⟨D3.c0, D3.c1, D3.c2, D3.c3, D3.c4, D3.c5, D3.cz⟩
  have F5 : Fr (fun x => x ≠ B) w3 (w3.setCell ⟨B, 3, none⟩ (.int .i64 (t.calls + 1))) := (Fr.refl _ _).setCell (fun m hm => by exact hm) _
  refine ⟨rfl, ?_, ?_⟩
  · rw [HW.out]
    refine D3.cells F5 rfl rfl rfl rfl ?_ ?_ ?_ ?_ ?_ ?_ ?_
    · go_simp
    · go_simp
    · go_simp
    · go_simp
    · go_simp
    · go_simp
    · intro j
      go_simp
  · exact (((f1.mono fun x hx => hx.1).trans (F2.mono fun _ _ => trivial)).trans (f3.mono fun x (hx : Off B bs bp x) => hx.2.2)).trans (F5.mono fun x (hx : Off B bs bp x) => hx.1)
end Go.Proofs.YteclgcnndjcmmaaDoor
