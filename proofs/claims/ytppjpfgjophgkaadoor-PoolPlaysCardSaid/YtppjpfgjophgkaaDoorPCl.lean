/- pool.Clone: a pool of its own, of so many pages. -/
import Derived.Test.YtppjpfgjophgkaaDoorDfP
import Derived.Test.YtppjpfgjophgkaaDoorMapLay6
import Derived.Test.YtppjpfgjophgkaaDoorLast3
import Derived.Shelf.SlMaps.Clone
import Derived.Deep.Cut
namespace Go.Proofs.YtppjpfgjophgkaaDoor
open Go.RowKit Go.Maps Go.Shelf

theorem wp_region_all6 {P : Program} {Q : Exit → Act → World → Prop} {S : World → Prop} {L : List Oper} {id : Nat} {a : Act} {w : World} (hm : P.follows .mixedOrders = true) (hS : S w.drew)
    (h : S w.drew → wpAnyH P .any L.toArray Q S L.length (Array.replicate L.length false) a w.drew) : (Code.region id L.toArray true).wp P Q a w := by
  refine wp_region_any hm ?_
  have h1 := wpAny_of_held _ _ _ _ (h hS)
  rw [List.size_toArray]
  exact h1
theorem cloneb_call {S : Nat → Prop} {w : World} {b n : Nat} {m : Int → Option Unit} (h : GMap elTrue Tryd.prog 3 S w b m n) :
    Calls Tryd.prog 29 #[.map (some b)] w fun e w' => e = .returned (.map (some w.heap.size)) ∧ Fr All w w' := by
  obtain ⟨D, h1, h2, h3⟩ := h
  refine (AnyW.maps_Clone_owns cloneBLays 3 elH b n D w h1).mono ?_
  rintro e w' ⟨rfl, ho, _, hb⟩
  exact ⟨rfl, Fr.of_below_all hb⟩

/-- Elements of which nothing is asked. -/
def elAny : El Unit where
  R := fun _ _ _ _ => True
  move := fun _ _ _ => trivial
  mono := fun _ _ => trivial
theorem GMap.anyOf {α : Type} {d : El α} {P : Program} {K : TypeId} {S : Nat → Prop} {w : World} {b n : Nat} {m : Int → Option α} (h : GMap d P K S w b m n) : GMap elAny P K Nowhere w b (fun k => (m k).map fun _ => ()) n := by
  obtain ⟨D, h1, h2, h3⟩ := h
  refine ⟨D, h1, h2, fun k hk => ?_⟩
  have h4 := h3 k hk
  show GEnt elAny Nowhere w D k ((m k).map fun _ => ())
  cases hm : m k with
  | none => rw [hm] at h4; exact h4
  | some x =>
    rw [hm] at h4
    obtain ⟨h5, v, h6, _⟩ := h4
    exact ⟨h5, v, h6, trivial⟩
theorem came_plain {S : Nat → Prop} {w : World} {D : DataW Value} {k : Int} {o : Option Page} (h : GEnt elPage S w D k o) {val : Value} (hat : ∀ zd, D.atKey (kl k) zd = .held val) :
    ∃ p, o = some p ∧ ∃ A c, val = .agg #[.int .i64 p.id, .int .i64 p.lsn, .int .i64 p.level, .int .i64 p.next, .slice A p.ents.length c] ∧ Sl kEnt S w (.slice A p.ents.length c) p.ents := by
  cases o with
  | none =>
    have h5 : Maps.has D (kl k) = false := h
    have h6 := (atKey_of_not_has h5 .nil).symm.trans (hat .nil)
    cases h6
  | some p =>
    obtain ⟨h5, v, h6, A, c, rfl, h7⟩ := h
    have h8 := (h6 .nil).symm.trans (hat .nil)
    injection h8 with h9
    exact ⟨p, rfl, A, c, h9.symm, h7⟩
/-- A pool of which its length alone is asked. -/
structure CLen (w : World) (B l n : Nat) : Prop where
  c0 : w.cell? ⟨B, 0, none⟩ = some (.map (some l))
  mv : ∃ m, GMap elAny Tryd.prog 3 Nowhere w l m n
theorem CLen.move {S : Nat → Prop} {w w' : World} {B l n : Nat} (h : CLen w B l n) (f : Fr S w w') (hB : S B) (hl : S l) : CLen w' B l n := by
  obtain ⟨m, hm⟩ := h.mv
  exact ⟨f.cell (p := ⟨B, 0, none⟩) hB h.c0, m, hm.move f hl fun _ hx _ => hx.elim⟩
theorem clen_call {w : World} {B l n : Nat} (h : CLen w B l n) : Calls Tryd.prog 9 #[.pointer (some ⟨B, 0, none⟩)] w fun e w' => e = .returned (.int .i64 (n : Int)) ∧ w' = w := by
  have c := h.c0
  obtain ⟨m, hm⟩ := h.mv
  have hl := hm.len Tryd.underlying60 3
  clear h hm
  go_enter Tryd.func9, Tryd.ntmps9
  go_wp2_with fail
  go_ret
  exact ⟨rfl, rfl⟩

set_option hygiene false in
set_option maxRecDepth 100000 in
set_option maxHeartbeats 4000000 in
theorem pool_clone {G : Nat → Prop} {w : World} {B l t : Nat} {s : PSt} (h : Pk G w B l t s) (hok : ∀ k p, s.have_ k = some p → EntsOk p.ents) (hnh : s.nh ≤ 1000) :
    Calls Tryd.prog 8 #[.pointer (some ⟨B, 0, none⟩)] w fun e w' => ∃ B' l' n', e = .returned (.pointer (some ⟨B', 0, none⟩)) ∧ w.heap.size ≤ B' ∧ w.heap.size ≤ l' ∧ CLen w' B' l' n' ∧ Fr All w w' := by
  have H := Lib.hid h
  have HOk := Lib.hid hok
  clear h hok
  go_enter Tryd.func8, Tryd.ntmps8
  go_wp2_with fail
  refine (pool_new' w).mono ?_
  rintro e w1 ⟨B', l', t', rfl, hB', hl', ht', hk, hPB, f1⟩
  obtain ⟨D, h0, h2, h3⟩ := H.out.hv
  have h1 := owns_move h0 f1 trivial
  have H1 := Lib.hid (H.out.all f1)
  have q0 := H1.out.c0
  have H3 := Lib.hid h3
  have H2 := Lib.hid h2
  have K := int_keyed (P := Tryd.prog) Tryd.underlying3
  have hlw := H.out.hv.lt
  have hBw := H.out.lt
  have htw := H.out.tv.lt
  have hkl := hk.hv.lt
  have hkB := hk.lt
  have hm1 := hk.hv.anyOf
  have hB'l : B' ≠ l' := hk.n1
  have HM := Lib.hid hm1
  have HB0 := Lib.hid hPB
  clear hk h2 h3 h0 hm1 hPB
  go_wp2_with (first
    | (at_range; refine wpList_range_own _ rfl _ 60 rfl 3 30 K Tryd.underlying60 elH l s.nh D rfl h1 ?_; intro w2 hrg0 hg0 hs0)
    | go_in)
  go_frame
  have f2 : Fr All w1 w2 := (Fr.of_grown hg0).mono fun x _ e => by cases e
  go_loopw [4, 5] (fun _ _ wr => ∃ (left : Lit → Bool) (cnt n' : Nat) (m' : Int → Option Unit), wr.ranges Tryd.prog 3 elH l w1.heap.size s.nh D left cnt ∧ GMap elAny Tryd.prog 3 Nowhere wr l' m' n' ∧ wr.heap[B']? = some (.cells #[.map (some l'), .map (some t')] 63 (0, 0)) ∧ n' + cnt ≤ s.nh ∧ Fr All w wr)
    (fun _ _ wr => wr.rangeLeft l w1.heap.size)
  case atStart => exact ⟨_, _, 0, _, hrg0, HM.out.all f2, (f2.block B' hkB trivial).trans HB0.out, by rw [H2.out]; omega, f1.trans f2⟩
  case round =>
    obtain ⟨left, cnt, n', m', hrg, hm', hb0, hnc, hF⟩ := hrel
    go_wp2_with (first
      | (at_next; refine wpList_next_ranges _ rfl _ rfl 3 K elH id id (fun key _ _ => ⟨key, rfl⟩) (fun v _ _ => ⟨v, rfl⟩) l w1.heap.size s.nh _ _ _ rfl hrg ?_ ?_)
      | go_in)
    · intro _ hl0
      have q1 := hF.cell (p := ⟨B, 1, none⟩) trivial H.out.c1
      have HMR := Lib.hid hm'
      have HPB := Lib.hid hb0
      clear q0 hrg hm' hb0 hnc
      go_wp2_with fail
      refine (cloneb_call (H.out.tv.all hF)).mono ?_
      rintro e w4 ⟨rfl, f4⟩
      have PB4 := (f4.block B' (blk_lt HPB.out) trivial).trans HPB.out
      obtain ⟨c0, c1, cz⟩ := blk2 PB4
      have D4 : Fr (fun b => b ≠ B') w4 (w4.setCell ⟨B', 1, none⟩ (.map (some wr.heap.size))) := (Fr.refl _ _).setCell (fun m hm => by exact hm) _
      have F4 := hF.trans f4
      go_wp2_with fail
      go_ret
      refine ⟨B', l', n', rfl, hB', hl', ⟨?_, m', (HMR.out.all f4).move D4 (Ne.symm hB'l) (fun _ hx _ => hx.elim)⟩, F4.setNew (p := ⟨B', 1, none⟩) hB' _⟩
      go_simp
    · intro x c klx yd yp w3 cnt1 hkey hlx hv hat hrg1 hlt hg1 hs1 hen
      obtain ⟨k, rfl, rfl, hwf⟩ := keyOf_int_inv Tryd.underlying3 hkey
      have hyd : yd = .held c := by
        have h1 : some (DataW.held c, ([] : List MemPlace)) = some (yd, yp) := hv
        exact (congrArg Prod.fst (Option.some.inj h1)).symm
      subst hyd
      obtain ⟨p, hp, PA, pc, rfl, hsp⟩ := came_plain (H3.out k hwf) hat
      have f3 : Fr (fun b => b ≠ w1.heap.size) wr w3 := (Fr.of_grown hg1).mono fun b hb e => hb (Option.some.inj e)
      have F3 : Fr All w w3 := ⟨f3.os.trans hF.os, f3.tape.trans hF.tape, f3.output.trans hF.output, Nat.le_trans hF.size f3.size, fun b hb _ => (f3.block b (Nat.lt_of_lt_of_le hb hF.size) (by have := f1.size; omega)).trans (hF.block b hb trivial)⟩
      have hm3 := hm'.move f3 (show l' ≠ w1.heap.size by omega) (fun _ hx _ => hx.elim)
      have hb3 := (f3.block B' (blk_lt hb0) (show B' ≠ w1.heap.size by omega)).trans hb0
      have HOkp := Lib.hid (HOk.out k p hp)
      have HSP := Lib.hid (hsp.all F3)
      have PB := heap_alloc_new w3 (.cells #[.int .i64 p.id, .int .i64 p.lsn, .int .i64 p.level, .int .i64 p.next, .slice PA p.ents.length pc] 30)
      have FA := (Fr.refl All w3).alloc (.cells #[.int .i64 p.id, .int .i64 p.lsn, .int .i64 p.level, .int .i64 p.next, .slice PA p.ents.length pc] 30)
      have hrgA := hrg1.alloc (.cells #[.int .i64 p.id, .int .i64 p.lsn, .int .i64 p.level, .int .i64 p.next, .slice PA p.ents.length pc] 30)
      have hlr := hrg1.lt
      have Hle := Lib.hid hrg.left_eq
      have hcnt : n' + cnt1 + 1 ≤ s.nh := by omega
      clear hm' hb0 hrg hkey hlx hv hat hsp hp hg1 hs1 hs0
      go_upto_region 5 with (fail)
      refine wp_name ?_
      intro W hW
      rw [← hW] at PB FA hrgA
      clear hW hrg1 hen
      have hmA := Lib.hid (hm3.all FA)
      have hbA := (FA.block B' (blk_lt hb3) trivial).trans hb3
      have HbA := Lib.hid hbA
      have HRG := Lib.hid hrgA
      have Hlt := Lib.hid hlt
      obtain ⟨g0, g1, gz⟩ := blk2 hbA
      obtain ⟨x0, x1, x2, x3, x4, xz⟩ := blk5 PB
      have FWA := F3.trans FA
      clear hm3 hb3 hrgA hlt PB
      refine wp_region_last (S := fun w' => w'.cell? ⟨B', 0, none⟩ = some (.map (some l')) ∧ w'.cell? ⟨w3.heap.size, 0, none⟩ = some (.int .i64 p.id) ∧ w'.cell? ⟨w3.heap.size, 1, none⟩ = some (.int .i64 p.lsn) ∧ w'.cell? ⟨w3.heap.size, 2, none⟩ = some (.int .i64 p.level) ∧ w'.cell? ⟨w3.heap.size, 3, none⟩ = some (.int .i64 p.next) ∧ w'.cell? ⟨w3.heap.size, 4, none⟩ = some (.slice PA p.ents.length pc)) 7 (by kernel_rfl) rfl (by kernel_rfl) ⟨g0, x0, x1, x2, x3, x4⟩ (fun hHeld => ?_)
      simp only [List.take_succ_cons, List.take_zero]
      refine wpAnyH_take (i := 0) (v := ?_) rfl (by kernel_rfl) (by kernel_rfl) (by kernel_rfl) (fun _ _ _ h => h) (Or.inl ⟨by rfl, ?_⟩) (by assumption) ?_
      rotate_left
      · (intro w hSw; (try dsimp only at hSw); go_simp; try with_reducible rfl)
      try simp only [List.getElem_toArray, List.getElem_cons_succ, List.getElem_cons_zero, Act.put, List.setIfInBounds_toArray, List.set_cons_succ, List.set_cons_zero]
      refine wpAnyH_take (i := 1) (v := ?_) rfl (by kernel_rfl) (by kernel_rfl) (by kernel_rfl) (fun _ _ _ h => h) (Or.inl ⟨by rfl, ?_⟩) (by assumption) ?_
      rotate_left
      · (intro w hSw; (try dsimp only at hSw); go_simp; try with_reducible rfl)
      try simp only [List.getElem_toArray, List.getElem_cons_succ, List.getElem_cons_zero, Act.put, List.setIfInBounds_toArray, List.set_cons_succ, List.set_cons_zero]
      refine wpAnyH_take (i := 2) (v := ?_) rfl (by kernel_rfl) (by kernel_rfl) (by kernel_rfl) (fun _ _ _ h => h) (Or.inl ⟨by rfl, ?_⟩) (by assumption) ?_
      rotate_left
      · (intro w hSw; (try dsimp only at hSw); go_simp; try with_reducible rfl)
      try simp only [List.getElem_toArray, List.getElem_cons_succ, List.getElem_cons_zero, Act.put, List.setIfInBounds_toArray, List.set_cons_succ, List.set_cons_zero]
      refine wpAnyH_take (i := 3) (v := ?_) rfl (by kernel_rfl) (by kernel_rfl) (by kernel_rfl) (fun _ _ _ h => h) (Or.inl ⟨by rfl, ?_⟩) (by assumption) ?_
      rotate_left
      · (intro w hSw; (try dsimp only at hSw); go_simp; try with_reducible rfl)
      try simp only [List.getElem_toArray, List.getElem_cons_succ, List.getElem_cons_zero, Act.put, List.setIfInBounds_toArray, List.set_cons_succ, List.set_cons_zero]
      refine wpAnyH_take (i := 4) (v := ?_) rfl (by kernel_rfl) (by kernel_rfl) (by kernel_rfl) (fun _ _ _ h => h) (Or.inl ⟨by rfl, ?_⟩) (by assumption) ?_
      rotate_left
      · (intro w hSw; (try dsimp only at hSw); go_simp; try with_reducible rfl)
      try simp only [List.getElem_toArray, List.getElem_cons_succ, List.getElem_cons_zero, Act.put, List.setIfInBounds_toArray, List.set_cons_succ, List.set_cons_zero]
      refine wpAnyH_take (i := 5) (v := ?_) rfl (by kernel_rfl) (by kernel_rfl) (by kernel_rfl) (fun _ _ _ h => h) (Or.inl ⟨by rfl, ?_⟩) (by assumption) ?_
      rotate_left
      · (intro w hSw; (try dsimp only at hSw); go_simp; try with_reducible rfl)
      try simp only [List.getElem_toArray, List.getElem_cons_succ, List.getElem_cons_zero, Act.put, List.setIfInBounds_toArray, List.set_cons_succ, List.set_cons_zero]
      refine wpAnyH_ready (rs := [6]) (by kernel_rfl) (by simp) (AllReadyH.cons rfl (fun K hK => ?_) AllReadyH.nil)
      go_simp
      refine (page_clone' (p := p) ((HSP.out.all FA).all (Fr.refl All W).drew) HOkp.out).mono ?_
      rintro e w7 ⟨PA7, pc7, rfl, o7, f7⟩
      go_simp
      have F7 : Fr All W w7 := (Fr.refl All W).drew.then_all f7
      refine hK.out _ _ ⟨F7.cell trivial g0, F7.cell trivial x0, F7.cell trivial x1, F7.cell trivial x2, F7.cell trivial x3, F7.cell trivial x4⟩ (fun hHeld => ?_)
      clear hK K
      try simp only [List.getElem_toArray, List.getElem_cons_succ, List.getElem_cons_zero, Act.put, List.setIfInBounds_toArray, List.set_cons_succ, List.set_cons_zero]
      obtain ⟨w8, hr8, m8, f8⟩ := (hmA.out.all F7).put Tryd.underlying3 Tryd.underlying60 (k := k) hwf (by omega) (v := .agg #[.int .i64 p.id, .int .i64 p.lsn, .int .i64 p.level, .int .i64 p.next, .slice PA7 p.ents.length pc7]) (x := ()) trivial (fun x hx => hx.elim)
      have M8 := Lib.hid m8
      clear hHeld g0 g1 gz x0 x1 x2 x3 x4 xz m8 o7
      refine wpAnyH_done (by kernel_rfl) ?_ _
      show wpList _ _ _ _ _ _
      go_wp2_with fail
      have G7 : W.grownBy w7 none := (F7.mono fun _ _ => trivial : Fr (But none) W w7).grown
      have G8 : w7.grownBy w8 (some l') := (f8.mono fun x hx e => hx (by rw [e]) : Fr (But (some l')) w7 w8).grown
      have R8 := (HRG.out.kept G7 (by simp) (by simp)).kept G8 (by simp; omega) (by simp; omega)
      have B8 := (f8.block B' (Nat.lt_of_lt_of_le (blk_lt HbA.out) F7.size) hB'l).trans ((F7.block B' (blk_lt HbA.out) trivial).trans HbA.out)
      have F8 : Fr All w w8 := ⟨f8.os.trans (FWA.trans F7).os, f8.tape.trans (FWA.trans F7).tape, f8.output.trans (FWA.trans F7).output, Nat.le_trans (FWA.trans F7).size f8.size, fun b hb _ => (f8.block b (Nat.lt_of_lt_of_le hb (FWA.trans F7).size) (by omega)).trans ((FWA.trans F7).block b hb trivial)⟩
      go_roundw
      case rel => exact ⟨_, cnt1, _, _, R8, M8.out, B8, by split <;> omega, F8⟩
      case measure =>
        rw [R8.left_eq, Hle.out]
        exact Hlt.out
end Go.Proofs.YtppjpfgjophgkaaDoor
