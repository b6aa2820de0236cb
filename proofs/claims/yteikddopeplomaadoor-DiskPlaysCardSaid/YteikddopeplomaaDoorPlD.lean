/- The chapter's disk: its functions. -/
import Derived.Test.YteikddopeplomaaDoorPlR
import Derived.IntWalk
namespace Go.Proofs.YteikddopeplomaaDoor
open Go.RowKit

/-- The chapter's disk at R; what it has lies in T, and not in R. -/
def Rk (T : Nat → Prop) (w : World) (R : Nat) (r : RSt) : Prop :=
  ∃ KA kc PA pc, w.heap[R]? = some (.cells #[.int .i64 r.blocks, .int .i64 r.calls, .slice KA r.kept.length kc, .slice PA r.pend.length pc, .int .i64 r.fuse, .bool r.down] 78 (0, 0)) ∧
    Sl kBlk (fun x => x ≠ R ∧ T x) w (.slice KA r.kept.length kc) r.kept ∧ Sl kBlk (fun x => x ≠ R ∧ T x) w (.slice PA r.pend.length pc) r.pend

section
variable {T : Nat → Prop} {w w' : World} {R : Nat} {r : RSt}
theorem Rk.lt (h : Rk T w R r) : R < w.heap.size := by
  obtain ⟨_, _, _, _, hb, _⟩ := h
  exact blk_lt hb
theorem Rk.move {S : Nat → Prop} (h : Rk T w R r) (f : Fr S w w') (hR : S R) (hs : ∀ x, x ≠ R → T x → x < w.heap.size → S x) : Rk T w' R r := by
  obtain ⟨KA, kc, PA, pc, hb, hk, hp⟩ := h
  exact ⟨KA, kc, PA, pc, (f.block _ (blk_lt hb) hR).trans hb, hk.move' f fun x hx hl => hs x hx.1 hx.2 hl, hp.move' f fun x hx hl => hs x hx.1 hx.2 hl⟩
theorem Rk.all (h : Rk T w R r) (f : Fr All w w') : Rk T w' R r := h.move f trivial fun _ _ _ _ => trivial

set_option maxRecDepth 100000 in
set_option maxHeartbeats 1000000 in
theorem rpower_call (h : Rk T w R r) (hf : r.fuse ≤ 9223372036854775807) :
    Calls Tryd.prog 74 #[.pointer (some ⟨R, 0, none⟩)] w fun e w' => e = .returned (.bool (!r.power.down)) ∧ Rk T w' R r.power ∧ Fr (fun x => x ≠ R) w w' := by
  have H := Lib.hid h
  obtain ⟨KA, kc, PA, pc, hb, hk, hp⟩ := h
  obtain ⟨c0, c1, c2, c3, c4, c5, cz⟩ := blk6 hb
  have HB := Lib.hid hb
  have HK := Lib.hid hk
  have HP := Lib.hid hp
  clear hb hk hp
  cases hd : r.down with
  | true =>
    rw [hd] at c5
    have hu : r.power = r := by simp [RSt.power, hd]
    have Hu := Lib.hid hu
    have Hd := Lib.hid hd
    clear hu hd
    go_enter Tryd.func74, Tryd.ntmps74
    go_wp2_with fail
    go_ret
    rw [Hu.out, Hd.out]
    exact ⟨rfl, H.out, Fr.refl _ _⟩
  | false =>
    rw [hd] at c5
    by_cases hp : 0 < r.fuse
    · have hg : decide (r.fuse > 0) = true := decide_eq_true hp
      have hw : IntKind.i64.wrap (r.fuse - 1) = r.fuse - 1 := IntWalk.i64_in _ (by omega)
      have hu : r.power = { r with fuse := r.fuse - 1, down := decide (r.fuse - 1 = 0) } := by simp [RSt.power, hd, hp]
      cases hz : (r.fuse - 1 == 0) with
      | true =>
        have hz2 : decide (r.fuse - 1 = 0) = true := decide_eq_true (eq_of_beq hz)
        rw [hz2] at hu
        have Hu := Lib.hid hu
        clear hu hd hp hz2
        go_enter Tryd.func74, Tryd.ntmps74
        go_wp2_with fail
        go_ret
        rw [Hu.out]
        have F5 : Fr (fun x => x ≠ R) w ((w.setCell ⟨R, 4, none⟩ (.int .i64 (r.fuse - 1))).setCell ⟨R, 5, none⟩ (.bool true)) := ((Fr.refl _ _).setCell (fun m hm => by exact hm) _).setCell (fun m hm => by exact hm) _
        exact ⟨rfl, ⟨KA, kc, PA, pc, heap_setCell_same _ R 5 _ _ _ (heap_setCell_same _ R 4 _ _ _ HB.out), HK.out.move' F5 fun x hx _ => hx.1, HP.out.move' F5 fun x hx _ => hx.1⟩, F5⟩
      | false =>
        have hz2 : decide (r.fuse - 1 = 0) = false := decide_eq_false (ne_of_beq_false hz)
        rw [hz2] at hu
        have Hu := Lib.hid hu
        have Hd := Lib.hid hd
        clear hu hd hp hz2
        go_enter Tryd.func74, Tryd.ntmps74
        go_wp2_with fail
        go_ret
        rw [Hu.out]
        have F5 : Fr (fun x => x ≠ R) w (w.setCell ⟨R, 4, none⟩ (.int .i64 (r.fuse - 1))) := (Fr.refl _ _).setCell (fun m hm => by exact hm) _
        have hb2 := heap_setCell_same _ R 4 _ _ (.int .i64 (r.fuse - 1)) HB.out
        rw [Hd.out] at hb2
        exact ⟨rfl, ⟨KA, kc, PA, pc, hb2, HK.out.move' F5 fun x hx _ => hx.1, HP.out.move' F5 fun x hx _ => hx.1⟩, F5⟩
    · have hg : decide (r.fuse > 0) = false := decide_eq_false hp
      have hu : r.power = r := by simp [RSt.power, hp]
      have Hu := Lib.hid hu
      have Hd := Lib.hid hd
      clear hu hd hp
      go_enter Tryd.func74, Tryd.ntmps74
      go_wp2_with fail
      go_ret
      rw [Hu.out, Hd.out]
      exact ⟨rfl, H.out, Fr.refl _ _⟩

theorem rnew_call {n : Int} (w : World) (h0 : 1 ≤ n) (h1 : n ≤ 16384) :
    Calls Tryd.prog 44 #[.int .i64 n] w fun e w' => e = .returned (.tuple #[.pointer (some ⟨w.heap.size, 0, none⟩), .int .i64 0]) ∧ Rk T w' w.heap.size ⟨n, 0, [], [], 0, false⟩ ∧ w.heap.size < w'.heap.size ∧ Fr All w w' := by
  have d1 : decide (n < 1) = false := decide_eq_false (by omega)
  have d2 : decide (n > 16384) = false := decide_eq_false (by omega)
  go_enter Tryd.func44, Tryd.ntmps44
  go_wp2_with fail
  go_ret2
  exact ⟨rfl, ⟨none, 0, none, 0, heap_alloc_new w _, Sl.nil_ _ _ _, Sl.nil_ _ _ _⟩, by simp, (Fr.refl _ _).alloc _⟩
theorem rnew_bad {n : Int} (w : World) (h : n < 1 ∨ 16384 < n) :
    Calls Tryd.prog 44 #[.int .i64 n] w fun e w' => e = .returned (.tuple #[.pointer none, .int .i64 105]) ∧ w' = w := by
  cases d1 : decide (n < 1) with
  | true =>
    clear h
    go_enter Tryd.func44, Tryd.ntmps44
    go_wp2_with fail
    go_ret2
    exact ⟨rfl, rfl⟩
  | false =>
    have d2 : decide (n > 16384) = true := decide_eq_true (by have := of_decide_eq_false d1; omega)
    clear h
    go_enter Tryd.func44, Tryd.ntmps44
    go_wp2_with fail
    go_ret2
    exact ⟨rfl, rfl⟩

theorem rarm_call (h : Rk T w R r) (n : Int) :
    Calls Tryd.prog 47 #[.pointer (some ⟨R, 0, none⟩), .int .i64 n] w fun e w' => e = .returned (.tuple #[]) ∧ Rk T w' R { r with fuse := max n 0 } ∧ Fr (fun x => x ≠ R) w w' := by
  obtain ⟨KA, kc, PA, pc, hb, hk, hp⟩ := h
  obtain ⟨c0, c1, c2, c3, c4, c5, cz⟩ := blk6 hb
  have HB := Lib.hid hb
  have HK := Lib.hid hk
  have HP := Lib.hid hp
  obtain ⟨m, hm⟩ : ∃ m, max n 0 = m := ⟨_, rfl⟩
  have hmn : (max n ↑(0 : Int)) = m := hm
  rw [hm]
  clear hb hk hp
  go_enter Tryd.func47, Tryd.ntmps47
  go_wp2_with fail
  go_end0
  have F5 : Fr (fun x => x ≠ R) w (w.setCell ⟨R, 4, none⟩ (.int .i64 m)) := (Fr.refl _ _).setCell (fun m hm => by exact hm) _
  exact ⟨rfl, ⟨KA, kc, PA, pc, heap_setCell_same _ R 4 _ _ _ HB.out, HK.out.move' F5 fun x hx _ => hx.1, HP.out.move' F5 fun x hx _ => hx.1⟩, F5⟩

theorem rerase_call (h : Rk T w R r) :
    Calls Tryd.prog 49 #[.pointer (some ⟨R, 0, none⟩)] w fun e w' => e = .returned (.tuple #[]) ∧ Rk T w' R { r with kept := [], pend := [], down := false, fuse := 0 } ∧ Fr (fun x => x ≠ R) w w' := by
  obtain ⟨KA, kc, PA, pc, hb, hk, hp⟩ := h
  obtain ⟨c0, c1, c2, c3, c4, c5, cz⟩ := blk6 hb
  have HB := Lib.hid hb
  clear hb hk hp
  go_enter Tryd.func49, Tryd.ntmps49
  go_wp2_with fail
  go_end0
  refine ⟨rfl, ⟨none, 0, none, 0, heap_setCell_same _ R 4 _ _ _ (heap_setCell_same _ R 5 _ _ _ (heap_setCell_same _ R 2 _ _ _ (heap_setCell_same _ R 3 _ _ _ HB.out))), Sl.nil_ _ _ _, Sl.nil_ _ _ _⟩, ?_⟩
  exact ((((Fr.refl _ _).setCell (fun m hm => by exact hm) _).setCell (fun m hm => by exact hm) _).setCell (fun m hm => by exact hm) _).setCell (fun m hm => by exact hm) _

/-! ### Read -/
theorem rread_down (h : Rk T w R r) (hd : r.down = true) (i : Int) :
    Calls Tryd.prog 50 #[.pointer (some ⟨R, 0, none⟩), .int .i64 i] w fun e w' => e = .returned (.tuple #[.slice none 0 0, .bool false, .int .i64 110]) ∧ w' = w := by
  obtain ⟨KA, kc, PA, pc, hb, hk, hp⟩ := h
  obtain ⟨c0, c1, c2, c3, c4, c5, cz⟩ := blk6 hb
  rw [hd] at c5
  clear hb hk hp hd
  go_enter Tryd.func50, Tryd.ntmps50
  go_wp2_with fail
  go_ret3
  exact ⟨rfl, rfl⟩
theorem rread_out (h : Rk T w R r) (hd : r.down = false) {i : Int} (hi : i < 0 ∨ r.blocks ≤ i) :
    Calls Tryd.prog 50 #[.pointer (some ⟨R, 0, none⟩), .int .i64 i] w fun e w' => e = .returned (.tuple #[.slice none 0 0, .bool false, .int .i64 109]) ∧ w' = w := by
  obtain ⟨KA, kc, PA, pc, hb, hk, hp⟩ := h
  obtain ⟨c0, c1, c2, c3, c4, c5, cz⟩ := blk6 hb
  rw [hd] at c5
  clear hb hk hp hd
  cases d1 : decide (i < 0) with
  | true =>
    clear hi
    go_enter Tryd.func50, Tryd.ntmps50
    go_wp2_with fail
    go_ret3
    exact ⟨rfl, rfl⟩
  | false =>
    have d2 : decide (i ≥ r.blocks) = true := decide_eq_true (by have := of_decide_eq_false d1; omega)
    clear hi
    go_enter Tryd.func50, Tryd.ntmps50
    go_wp2_with fail
    go_ret3
    exact ⟨rfl, rfl⟩
set_option maxRecDepth 100000 in
set_option maxHeartbeats 1000000 in
theorem rread_call (h : Rk T w R r) (hd : r.down = false) {i : Int} (h0 : 0 ≤ i) (h1 : i < r.blocks) (hn : r.pend.length ≤ 1000000) (hn2 : r.kept.length ≤ 1000000) :
    Calls Tryd.prog 50 #[.pointer (some ⟨R, 0, none⟩), .int .i64 i] w fun e w' => ∃ A n c xs, e = .returned (.tuple #[.slice A n c, .bool (rfind r.pend i <|> rfind r.kept i).isSome, .int .i64 0]) ∧ xs = (rfind r.pend i <|> rfind r.kept i).getD [] ∧ Sl kByte All w (.slice A n c) xs ∧ w' = w := by
  obtain ⟨KA, kc, PA, pc, hb, hk, hp⟩ := h
  obtain ⟨c0, c1, c2, c3, c4, c5, cz⟩ := blk6 hb
  rw [hd] at c5
  have d1 : decide (i < 0) = false := decide_eq_false (by omega)
  have d2 : decide (i ≥ r.blocks) = false := decide_eq_false (by omega)
  have hfp := rfind_call hp hn i
  have hfk := rfind_call hk hn2 i
  have HK := Lib.hid hk
  have HP := Lib.hid hp
  clear hb hk hp hd h0 h1
  obtain ⟨np, hnp⟩ : ∃ np, r.pend.length = np := ⟨_, rfl⟩
  obtain ⟨nk, hnk⟩ : ∃ nk, r.kept.length = nk := ⟨_, rfl⟩
  cases hrp : rfind r.pend i with
  | some xs =>
    obtain ⟨j, e1, hj⟩ := rat_some (j := 0) hrp
    rw [Nat.zero_add] at e1
    rw [e1] at hfp
    have HFP := Lib.hid hfp
    obtain ⟨b, o, A1, n1, cc1, hPA, g0, g1, t1, _⟩ := blk_at HP.out hj
    subst hPA
    have hjl := (List.getElem?_eq_some_iff.1 hj).1
    have b0 : (0 : Int) ≤ (j : Int) := by omega
    have b1 : (j : Int) < (r.pend.length : Int) := by omega
    have HT := Lib.hid t1
    have d3 : decide ((j : Int) ≥ 0) = true := decide_eq_true (by omega)
    clear hfp hfk hrp e1 hj t1 hnp hnk
    go_enter Tryd.func50, Tryd.ntmps50
    go_wp2_with fail
    refine HFP.out.mono ?_
    rintro e wn ⟨rfl, hwn⟩
    obtain rfl := hwn.symm
    go_wp2_with fail
    go_ret3
    exact ⟨A1, n1, cc1, xs, rfl, rfl, HT.out.mono fun _ _ _ => trivial, rfl⟩
  | none =>
    rw [rat_none hrp] at hfp
    have HFP := Lib.hid hfp
    cases hrk : rfind r.kept i with
    | some xs =>
      obtain ⟨j, e1, hj⟩ := rat_some (j := 0) hrk
      rw [Nat.zero_add] at e1
      rw [e1] at hfk
      have HFK := Lib.hid hfk
      obtain ⟨b, o, A1, n1, cc1, hKA, g0, g1, t1, _⟩ := blk_at HK.out hj
      subst hKA
      have hjl := (List.getElem?_eq_some_iff.1 hj).1
      have b0 : (0 : Int) ≤ (j : Int) := by omega
      have b1 : (j : Int) < (r.kept.length : Int) := by omega
      have HT := Lib.hid t1
      have d3 : decide ((j : Int) ≥ 0) = true := decide_eq_true (by omega)
      clear hfp hfk hrp e1 hj t1 hnp hnk hrk
      go_enter Tryd.func50, Tryd.ntmps50
      go_wp2_with fail
      refine HFP.out.mono ?_
      rintro e wn ⟨rfl, hwn⟩
      obtain rfl := hwn.symm
      go_wp2_with fail
      refine HFK.out.mono ?_
      rintro e wn ⟨rfl, hwn⟩
      obtain rfl := hwn.symm
      go_wp2_with fail
      go_ret3
      exact ⟨A1, n1, cc1, xs, rfl, rfl, HT.out.mono fun _ _ _ => trivial, rfl⟩
    | none =>
      rw [rat_none hrk] at hfk
      have HFK := Lib.hid hfk
      clear hfp hfk hrp hnp hnk hrk
      go_enter Tryd.func50, Tryd.ntmps50
      go_wp2_with fail
      refine HFP.out.mono ?_
      rintro e wn ⟨rfl, hwn⟩
      obtain rfl := hwn.symm
      go_wp2_with fail
      refine HFK.out.mono ?_
      rintro e wn ⟨rfl, hwn⟩
      obtain rfl := hwn.symm
      go_wp2_with fail
      go_ret3
      exact ⟨none, 0, 0, [], rfl, rfl, Sl.nil_ _ _ _, rfl⟩
end
end Go.Proofs.YteikddopeplomaaDoor
