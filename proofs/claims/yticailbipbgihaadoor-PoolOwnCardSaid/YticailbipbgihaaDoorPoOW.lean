/- PoolOwn walked. -/
import Derived.Test.YticailbipbgihaaDoorPOwn
import Derived.Test.YticailbipbgihaaDoorRefV
import Derived.Test.YticailbipbgihaaDoorPHd
namespace Go.Proofs.YticailbipbgihaaDoor
open Go.RowKit Go.Maps

theorem own_ne {α : Type} {d : Kd α} {e t : TypeId} {base b : Nat} {S : Nat → Prop} {w : World} {v : Value} {xs : List α} {cs : Array Value} (o : Own d e base S w v xs) (hB : w.heap[b]? = some (.cells cs t (0, 0))) (hte : t ≠ e) : v.ownBlock ≠ some b := by
  obtain ⟨_, ho, _⟩ := o
  rcases ho.2 with ⟨rfl, _⟩ | ⟨g, cap, cur, rfl, _, hg, _⟩
  · simp [Value.ownBlock]
  · intro e'
    obtain rfl : g = b := by simpa [Value.ownBlock] using e'
    rw [hg] at hB
    injection hB with hB
    injection hB with _ h2
    exact hte h2.symm
theorem u8_succ (x : UInt8) : IntKind.u8.wrap ((x.toNat : Int) + 1) = ((x + 1).toNat : Int) := by
  rw [IntKind.wrap_u8, UInt8.toNat_add]
  show _ = (((x.toNat + 1) % 256 : Nat) : Int)
  omega
theorem puts_has (p : Page) : (PSt.puts .new p).have_ p.id = some p := by
  simp [PSt.puts, PSt.new, PSt.has, PSt.unwant, gput]
set_option maxRecDepth 100000 in
set_option maxHeartbeats 20000000 in
theorem own_walk {w : World} {p : Page} {v : Value} {S : Nat → Prop} (s0 : Sl kEnt S w v p.ents) :
    Calls Tryd.prog 3 #[.agg #[.int .i64 p.id, .int .i64 p.lsn, .int .i64 p.level, .int .i64 p.next, v]] w fun e w' => e = .returned (.bool true) ∧ Fr All w w' := by
  obtain ⟨A, n, c, rfl, en, _⟩ := s0.open_
  have B0 := heap_alloc_new w (.cells #[.int .i64 p.id, .int .i64 p.lsn, .int .i64 p.level, .int .i64 p.next, .slice A n c] 24)
  have F0 := (Fr.refl All w).alloc (.cells #[.int .i64 p.id, .int .i64 p.lsn, .int .i64 p.level, .int .i64 p.next, .slice A n c] 24)
  have En := Lib.hid en
  have HS := Lib.hid (s0.mono (T := fun b => b < w.heap.size) fun _ _ hl => hl)
  clear s0 en
  go_enter Tryd.func3, Tryd.ntmps3
  go_wp2_with fail
  refine (first20_call _).mono ?_
  rintro e w1 ⟨rfl, f1⟩
  have F1 := Lib.hid (F0.trans f1)
  have B1 := (f1.block _ (blk_lt B0) trivial).trans B0
  obtain ⟨p0, p1, p2, p3, p4, pz⟩ := blk5 B1
  have HB1 := Lib.hid B1
  have hww := F1.out.size
  have hw1 := blk_lt B1
  clear F0 B0 f1 B1
  go_wp2_with fail
  refine (world_page (HS.out.all F1.out)).mono ?_
  rintro e w2 ⟨rfl, f2⟩
  have F2 := Lib.hid (F1.out.trans f2)
  have B2 := (f2.block _ hw1 trivial).trans HB1.out
  clear p0 p1 p2 p3 p4 pz
  obtain ⟨p0, p1, p2, p3, p4, pz⟩ := blk5 B2
  cases hsm : smallPage p.ents with
  | false =>
    go_wp2_with fail
    go_ret
    exact ⟨rfl, F2.out⟩
  | true =>
    go_wp2_with fail
    refine (ref_valid (HS.out.all F2.out)).mono ?_
    rintro e w3 ⟨cd, rfl, hcd, f3⟩
    have F3 := Lib.hid (F2.out.trans f3)
    have B3 := (f3.block _ (blk_lt B2) trivial).trans B2
    have HB3 := Lib.hid B3
    have hw3 := blk_lt B3
    clear p0 p1 p2 p3 p4 pz f2 B2 f3 hsm
    obtain ⟨p0, p1, p2, p3, p4, pz⟩ := blk5 B3
    by_cases h0 : cd = 0
    · subst h0
      have HOK := Lib.hid (hcd rfl)
      clear hcd B3
      go_wp2_with fail
      refine (pool_new w3).mono ?_
      rintro e w4 ⟨B, l, t, rfl, l0, l1, l2, hp4, f4⟩
      have H4 : Hid (PHeld w3 w4 B l t .new) := Lib.hid ⟨hp4, l0, l1, l2, f4⟩
      have B4 := (f4.block _ (blk_lt HB3.out) trivial).trans HB3.out
      have HB4 := Lib.hid B4
      have hz3 := F3.out.size
      clear p0 p1 p2 p3 p4 pz hp4 f4
      obtain ⟨p0, p1, p2, p3, p4, pz⟩ := blk5 B4
      clear B4
      go_wp2_with fail
      refine (pool_put H4.out.pk HOK.out (HS.out.all (F3.out.trans H4.out.fr)) (fun x hx _ => by omega) (by simp [PSt.new])).mono ?_
      rintro e w5 ⟨rfl, hp5, f5⟩
      have H5 := Lib.hid (H4.out.off f5 hp5)
      have F5 := Lib.hid (F3.out.trans H5.out.fr)
      have B5 := (f5.block w.heap.size (blk_lt HB4.out) ⟨by omega, by omega, by omega⟩).trans HB4.out
      have HB5 := Lib.hid B5
      clear p0 p1 p2 p3 p4 pz hp5 f5
      obtain ⟨p0, p1, p2, p3, p4, pz⟩ := blk5 B5
      clear B5
      go_wp2_with fail
      refine (ref_page (HS.out.all F5.out) HOK.out.ents).mono ?_
      rintro e w6 ⟨A6, c6, rfl, s6, f6⟩
      obtain ⟨pn, hpn⟩ : ∃ pn, p.ents.length = pn := ⟨_, rfl⟩
      obtain rfl : pn = n := hpn.symm.trans En.out
      rw [hpn] at s6 ⊢
      clear hpn
      have FA := f6.alloc (.cells #[.int .i64 p.id, .int .i64 p.lsn, .int .i64 p.level, .int .i64 p.next, .slice A6 pn c6] 24)
      obtain ⟨W6, hW6⟩ : ∃ W, w6.alloc (.cells #[.int .i64 p.id, .int .i64 p.lsn, .int .i64 p.level, .int .i64 p.next, .slice A6 pn c6] 24) = W := ⟨_, rfl⟩
      have BW := heap_alloc_new w6 (.cells #[.int .i64 p.id, .int .i64 p.lsn, .int .i64 p.level, .int .i64 p.next, .slice A6 pn c6] 24)
      have SW := s6.all ((Fr.refl All w6).alloc (.cells #[.int .i64 p.id, .int .i64 p.lsn, .int .i64 p.level, .int .i64 p.next, .slice A6 pn c6] 24))
      rw [hW6] at FA BW SW
      have HBW := Lib.hid BW
      have HSW := Lib.hid SW
      have HFA := Lib.hid FA
      have H6 := Lib.hid (H5.out.all FA)
      have F6 := Lib.hid (F5.out.trans FA)
      have B6 := (FA.block _ (blk_lt HB5.out) trivial).trans HB5.out
      have HB6 := Lib.hid B6
      clear p0 p1 p2 p3 p4 pz s6 f6 BW SW FA
      obtain ⟨p0, p1, p2, p3, p4, pz⟩ := blk5 B6
      clear B6
      have hpn8 : pn ≤ 8 := by have := HOK.out.en; have := En.out; omega
      have hin : In64 p.id := in64_of (by have := HOK.out.i0; omega) (by have := HOK.out.i1; omega)
      go_wp2_with fail
      clear hW6
      refine (pool_get_own H6.out.pk hin (puts_has p) HOK.out.ents).mono ?_
      rintro e w7 ⟨A7, c7, rs, fs, rfl, o7, s7, hC, hp7, f7⟩
      rw [En.out] at o7 s7 hC ⊢
      have B7 := (f7.block _ (blk_lt HB6.out) trivial).trans HB6.out
      have FA := f7.alloc (.cells #[.int .i64 p.id, .int .i64 p.lsn, .int .i64 p.level, .int .i64 p.next, .slice A7 pn c7] 24)
      have FB := (Fr.refl All w7).alloc (.cells #[.int .i64 p.id, .int .i64 p.lsn, .int .i64 p.level, .int .i64 p.next, .slice A7 pn c7] 24)
      have BW := heap_alloc_new w7 (.cells #[.int .i64 p.id, .int .i64 p.lsn, .int .i64 p.level, .int .i64 p.next, .slice A7 pn c7] 24)
      obtain ⟨W8, hW8⟩ : ∃ W, w7.alloc (.cells #[.int .i64 p.id, .int .i64 p.lsn, .int .i64 p.level, .int .i64 p.next, .slice A7 pn c7] 24) = W := ⟨_, rfl⟩
      rw [hW8] at FA BW FB
      have HO8 := Lib.hid (o7.all FB)
      have HS8 := Lib.hid (s7.all FB)
      have HC8 := Lib.hid hC
      have HA8 := Lib.hid (hC.sl En.out (o7.all FB) (s7.all FB))
      have F68 := Lib.hid FA
      have HBA := Lib.hid BW
      have B8 := (FB.block _ (blk_lt B7) trivial).trans B7
      have HB8 := Lib.hid B8
      obtain ⟨Ba, hBa⟩ : ∃ Ba, w7.heap.size = Ba := ⟨_, rfl⟩
      have hBa6 : W6.heap.size ≤ Ba := by have := f7.size; omega
      rw [hBa] at HBA
      clear p0 p1 p2 p3 p4 pz o7 s7 hC hp7 f7 B7 FA BW FB
      obtain ⟨p0, p1, p2, p3, p4, pz⟩ := blk5 B8
      obtain ⟨a0, a1, a2, a3, a4, az⟩ := blk5 HBA.out
      clear B8
      go_wp2_with fail
      clear hW8
      refine (same_page HA8.out (HS.out.all (F6.out.trans F68.out)) (by have := HOK.out.en; omega) (fun x hx => by have := HOK.out.es x hx; omega)).mono ?_
      rintro e w9 ⟨rfl, f9⟩
      have HO9 := Lib.hid (HO8.out.all f9)
      have HS9 := Lib.hid (HS8.out.all f9)
      have HBA9 : Hid (w9.heap[Ba]? = some (.cells #[.int .i64 p.id, .int .i64 p.lsn, .int .i64 p.level, .int .i64 p.next, .slice A7 pn c7] 24 (0, 0))) := Lib.hid ((f9.block _ (blk_lt HBA.out) trivial).trans HBA.out)
      have F69 := Lib.hid (F68.out.trans f9)
      clear p0 p1 p2 p3 p4 pz a0 a1 a2 a3 a4 az f9 HO8 HS8 HBA HA8 HB8 F68 hBa
      obtain ⟨a0, a1, a2, a3, a4, az⟩ := blk5 HBA9.out
      go_wp2_with fail
      clear a0 a1 a2 a3 a4 az
      go_loopw [8] (fun i wr => ∃ (j : Nat) (rs : List (Value × Value)) (fs : Nat → Option (Value × List UInt8)), j ≤ pn ∧ i = .int .i64 j ∧ Hid (rs.length = pn) ∧ Hid (Own kRaw 39 W6.heap.size Nowhere wr (.slice A7 pn c7) rs) ∧ Hid (Sep W6.heap.size wr (.slice A7 pn c7) fs) ∧
        Hid (∀ i q, j ≤ i → rs[i]? = some q → ∃ a b, fs (2 * i) = some (q.1, a) ∧ fs (2 * i + 1) = some (q.2, b) ∧ a.length ≤ 32 ∧ b.length ≤ 64) ∧ Hid (wr.heap[Ba]? = some (.cells #[.int .i64 p.id, .int .i64 p.lsn, .int .i64 p.level, .int .i64 p.next, .slice A7 pn c7] 24 (0, 0))) ∧ Hid (Fr All W6 wr)) (fun i _ => pn - (intOf i).toNat)
      case atStart => exact ⟨0, rs, fs, Nat.zero_le _, rfl, Lib.hid HC8.out.len, HO9, HS9, Lib.hid fun i q _ hq => by
        have hi : i < p.ents.length := by rw [En.out, ← HC8.out.len]; exact (List.getElem?_eq_some_iff.1 hq).1
        obtain ⟨x, hx, hxm⟩ := get_of hi
        obtain ⟨q', h1, h2, h3⟩ := HC8.out.at_ i x (by rw [← En.out]; exact hi) hx
        obtain rfl := Option.some.inj (hq.symm.trans h1)
        exact ⟨_, _, h2, h3, HOK.out.es x hxm⟩, HBA9, F69⟩
      case round =>
        clear HO9 HS9 HC8 HBA9 F69
        obtain ⟨j, rs, fs, hj, rfl, HLn, HO, HP, HAT, HBA, HF⟩ := hrel
        obtain ⟨a0, a1, a2, a3, a4, az⟩ := blk5 HBA.out
        by_cases hlt : j < pn
        · obtain ⟨⟨q1, q2⟩, hq, _⟩ := get_of (l := rs) (k := j) (by rw [HLn.out]; exact hlt)
          obtain ⟨ka, vb, hk1, hv1, lk, lv⟩ := HAT.out j _ (Nat.le_refl _) hq
          obtain ⟨g, cg, hvE, hg1, hg2, x0, x1, xz, _⟩ := own_raw_at HO.out hq
          obtain rfl : A7 = some ⟨g, 0, none⟩ := (Value.slice.inj hvE).1
          clear hvE
          have okk := HP.out.own _ _ hk1
          have okv := HP.out.own _ _ hv1
          dsimp only at okk okv x0 x1
          obtain ⟨KA, kc, rfl⟩ := okk.length
          obtain ⟨VA, vc, rfl⟩ := okv.length
          have b0 : (0 : Int) ≤ (j : Int) := by omega
          have b1 : (j : Int) < (pn : Int) := by omega
          have FWA := (Fr.refl All wr).drew.alloc (.cells #[.int .u8 9] 5)
          have HOk := okk.all FWA
          have HY : Src kByte Nowhere (wr.drew.alloc (.cells #[.int .u8 9] 5)) (.slice (some ⟨wr.drew.heap.size, 0, none⟩) 1 1) [9] := Src.box (d := kByte) (x := 9) (cs := [.int .u8 9]) rfl _ 1
          go_upto_region 16 with (fail)
          refine wp_region_last (S := fun w' => w'.cell? ⟨Ba, 4, none⟩ = some (.slice (some ⟨g, 0, none⟩) pn c7) ∧ w'.cell? ⟨g, j * 2, none⟩ = some (.slice KA ka.length kc)) 13 (by kernel_rfl) rfl (by kernel_rfl) ⟨a4, x0⟩ (fun hHeld => ?_)
          simp only [List.take_succ_cons, List.take_zero]
          refine wpAnyH_take (i := 0) (v := ?_) rfl (by kernel_rfl) (by kernel_rfl) (by kernel_rfl) (fun _ _ _ h => h) (Or.inl ⟨by rfl, ?_⟩) (by assumption) ?_
          rotate_left
          · (intro w hSw; (try dsimp only at hSw); go_simp; try with_reducible rfl)
          try simp only [List.getElem_toArray, List.getElem_cons_succ, List.getElem_cons_zero, Act.put, List.setIfInBounds_toArray, List.set_cons_succ, List.set_cons_zero]
          refine wpAnyH_take (i := 1) (v := ?_) rfl (by kernel_rfl) (by kernel_rfl) (by kernel_rfl) (fun _ _ _ h => h) (Or.inl ⟨by rfl, ?_⟩) (by assumption) ?_
          rotate_left
          · (intro w hSw; (try dsimp only at hSw); go_simp; try with_reducible rfl)
          try simp only [List.getElem_toArray, List.getElem_cons_succ, List.getElem_cons_zero, Act.put, List.setIfInBounds_toArray, List.set_cons_succ, List.set_cons_zero]
          refine wpAnyH_take (i := 2) (v := ?_) rfl (by kernel_rfl) (by kernel_rfl) (by kernel_rfl) (fun _ _ _ h => h) (Or.inl ⟨by rfl, ?_⟩) (by assumption) ?_
          rotate_left
          · (intro w hSw; (try dsimp only at hSw); go_simp; try with_reducible rfl)
          try simp only [List.getElem_toArray, List.getElem_cons_succ, List.getElem_cons_zero, Act.put, List.setIfInBounds_toArray, List.set_cons_succ, List.set_cons_zero]
          refine wpAnyH_take (i := 3) (v := ?_) rfl (by kernel_rfl) (by kernel_rfl) (by kernel_rfl) (fun _ _ _ h => h) (Or.inl ⟨by rfl, ?_⟩) (by assumption) ?_
          rotate_left
          · (intro w hSw; (try dsimp only at hSw); go_simp; try with_reducible rfl)
          try simp only [List.getElem_toArray, List.getElem_cons_succ, List.getElem_cons_zero, Act.put, List.setIfInBounds_toArray, List.set_cons_succ, List.set_cons_zero]
          refine wpAnyH_take (i := 4) (v := ?_) rfl (by kernel_rfl) (by kernel_rfl) (by kernel_rfl) (fun _ _ _ h => h) (Or.inl ⟨by rfl, ?_⟩) (by assumption) ?_
          rotate_left
          · (intro w hSw; (try dsimp only at hSw); go_simp; try with_reducible rfl)
          try simp only [List.getElem_toArray, List.getElem_cons_succ, List.getElem_cons_zero, Act.put, List.setIfInBounds_toArray, List.set_cons_succ, List.set_cons_zero]
          refine wpAnyH_take (i := 5) (v := ?_) rfl (by kernel_rfl) (by kernel_rfl) (by kernel_rfl) (fun _ _ _ h => h) (Or.inl ⟨by rfl, ?_⟩) (by assumption) ?_
          rotate_left
          · (intro w hSw; (try dsimp only at hSw); go_simp; try with_reducible rfl)
          try simp only [List.getElem_toArray, List.getElem_cons_succ, List.getElem_cons_zero, Act.put, List.setIfInBounds_toArray, List.set_cons_succ, List.set_cons_zero]
          refine wpAnyH_take (i := 6) (v := ?_) rfl (by kernel_rfl) (by kernel_rfl) (by kernel_rfl) (fun _ _ _ h => h) (Or.inl ⟨by rfl, ?_⟩) (by assumption) ?_
          rotate_left
          · (intro w hSw; (try dsimp only at hSw); go_simp; try with_reducible rfl)
          try simp only [List.getElem_toArray, List.getElem_cons_succ, List.getElem_cons_zero, Act.put, List.setIfInBounds_toArray, List.set_cons_succ, List.set_cons_zero]
          refine wpAnyH_take (i := 7) (v := ?_) rfl (by kernel_rfl) (by kernel_rfl) (by kernel_rfl) (fun _ _ _ h => h) (Or.inl ⟨by rfl, ?_⟩) (by assumption) ?_
          rotate_left
          · (intro w hSw; (try dsimp only at hSw); go_simp; try with_reducible rfl)
          try simp only [List.getElem_toArray, List.getElem_cons_succ, List.getElem_cons_zero, Act.put, List.setIfInBounds_toArray, List.set_cons_succ, List.set_cons_zero]
          refine wpAnyH_take (i := 8) (v := ?_) rfl (by kernel_rfl) (by kernel_rfl) (by kernel_rfl) (fun _ _ _ h => h) (Or.inl ⟨by rfl, ?_⟩) (by assumption) ?_
          rotate_left
          · (intro w hSw; (try dsimp only at hSw); go_simp; try with_reducible rfl)
          try simp only [List.getElem_toArray, List.getElem_cons_succ, List.getElem_cons_zero, Act.put, List.setIfInBounds_toArray, List.set_cons_succ, List.set_cons_zero]
          refine wpAnyH_ready (rs := [9]) (by kernel_rfl) (by simp) (AllReadyH.cons rfl (fun K hK => ?_) AllReadyH.nil)
          go_simp
          refine hK.out _ _ ⟨FWA.cell trivial a4, FWA.cell trivial x0⟩ (fun hHeld => ?_)
          clear hK K
          try simp only [List.getElem_toArray, List.getElem_cons_succ, List.getElem_cons_zero, Act.put, List.setIfInBounds_toArray, List.set_cons_succ, List.set_cons_zero]
          refine wpAnyH_ready (rs := [10]) (by kernel_rfl) (by simp) (AllReadyH.cons rfl (fun K hK => ?_) AllReadyH.nil)
          refine wp_app rfl Tryd.underlying37 info_u8 rfl (by decide) HOk HY rfl rfl (fun _ h _ => h.elim) (by simp only [List.length_cons, List.length_nil]; omega) (Nat.le_trans HF.out.size FWA.size) ?_
          intro k' w' ok' fk hk'
          have hBk := own_ne HOk ((FWA.block _ (blk_lt HBA.out) trivial).trans HBA.out) (by decide)
          have hgk : (Value.slice KA ka.length kc).ownBlock ≠ some g := fun e => HP.out.off _ _ g hk1 e rfl
          obtain ⟨ka2, hka2⟩ : ∃ l, ka ++ [9] = l := ⟨_, rfl⟩
          rw [hka2] at ok'
          obtain ⟨K2, kc2, rfl⟩ := ok'.length
          have a4' : w'.cell? ⟨Ba, 4, none⟩ = some (.slice (some ⟨g, 0, none⟩) pn c7) := fk.cell (p := ⟨Ba, 4, none⟩) (fun e => hBk e.symm) (FWA.cell trivial a4)
          have x0' : w'.cell? ⟨g, j * 2, none⟩ = some (.slice KA ka.length kc) := fk.cell (p := ⟨g, j * 2, none⟩) (fun e => hgk e.symm) (FWA.cell trivial x0)
          refine hK.out _ _ ⟨a4', x0'⟩ (fun hHeld => ?_)
          clear hK K
          try simp only [List.getElem_toArray, List.getElem_cons_succ, List.getElem_cons_zero, Act.put, List.setIfInBounds_toArray, List.set_cons_succ, List.set_cons_zero]
          refine wpAnyH_take (i := 11) (v := ?_) rfl (by kernel_rfl) (by kernel_rfl) (by kernel_rfl) (fun _ _ _ h => h) (Or.inl ⟨by rfl, ?_⟩) (by assumption) ?_
          rotate_left
          · (intro w hSw; (try dsimp only at hSw); go_simp; try with_reducible rfl)
          try simp only [List.getElem_toArray, List.getElem_cons_succ, List.getElem_cons_zero, Act.put, List.setIfInBounds_toArray, List.set_cons_succ, List.set_cons_zero]
          refine wpAnyH_take (i := 12) (v := ?_) rfl (by kernel_rfl) (by kernel_rfl) (by kernel_rfl) (fun _ _ _ h => h) (Or.inl ⟨by rfl, ?_⟩) (by assumption) ?_
          rotate_left
          · (intro w hSw; (try dsimp only at hSw); go_simp; try with_reducible rfl)
          try simp only [List.getElem_toArray, List.getElem_cons_succ, List.getElem_cons_zero, Act.put, List.setIfInBounds_toArray, List.set_cons_succ, List.set_cons_zero]
          refine wpAnyH_done (by kernel_rfl) ?_ _
          show wpList _ _ _ _ _ _
          have hrow' : Own kRaw 39 W6.heap.size Nowhere w' (.slice (some ⟨g, 0, none⟩) pn c7) rs := (HO.out.all FWA).move fk (fun _ hb _ => hb.elim) fun m hm e => hgk (by rw [← e]; exact hm.symm)
          obtain ⟨g', cg', hvE', _, hg2', _, _, xz', hput'⟩ := own_raw_at hrow' hq
          have hgg : g = g' := by
            have h1 := (Value.slice.inj hvE').1
            injection h1 with h1
            injection h1
          subst hgg
          have R2 := Lib.hid (hput' (.slice K2 ka2.length kc2) rfl)
          have S1 := (HP.out.all FWA).turn hk1 ok' fk hk' (fun m hm => by obtain rfl := Option.some.inj hm; exact Nat.lt_of_lt_of_le hg2 FWA.size)
          have FG : Fr (fun b => b ≠ g) w' (w'.setCell ⟨g, j * 2, none⟩ (.slice K2 ka2.length kc2)) := (Fr.refl _ _).setCell (p := ⟨g, j * 2, none⟩) (fun b hb => hb) _
          have S2 := Lib.hid (S1.keep (vE' := .slice (some ⟨g, 0, none⟩) pn c7) (FG.mono fun b hb e => hb (by rw [e]; rfl)) (.inl rfl))
          have hBg : Ba ≠ g := fun e => own_ne HO.out HBA.out (by decide) (by rw [e]; rfl)
          have HBA2 : Hid ((w'.setCell ⟨g, j * 2, none⟩ (.slice K2 ka2.length kc2)).heap[Ba]? = some (.cells #[.int .i64 p.id, .int .i64 p.lsn, .int .i64 p.level, .int .i64 p.next, .slice (some ⟨g, 0, none⟩) pn c7] 24 (0, 0))) := Lib.hid ((FG.block Ba (Nat.lt_of_lt_of_le (blk_lt HBA.out) (Nat.le_trans FWA.size fk.size)) hBg).trans ((fk.block Ba (Nat.lt_of_lt_of_le (blk_lt HBA.out) FWA.size) (fun e => hBk e.symm)).trans ((FWA.block Ba (blk_lt HBA.out) trivial).trans HBA.out)))
          have FW2 : Hid (Fr All W6 (w'.setCell ⟨g, j * 2, none⟩ (.slice K2 ka2.length kc2))) := Lib.hid (((HF.out.trans FWA).row fk.grown fun m hm => (HP.out.lt hk1 hm).1).setNew (p := ⟨g, j * 2, none⟩) hg1 _)
          have hset : (rs.set j (.slice K2 ka2.length kc2, .slice VA vb.length vc))[j]? = some (.slice K2 ka2.length kc2, .slice VA vb.length vc) := by rw [List.getElem?_set, if_pos rfl, if_pos (by rw [HLn.out]; exact hlt)]
          obtain ⟨g2, cg2, hvE2, _, _, y0, y1, _, _⟩ := own_raw_at R2.out hset
          have hgg : g = g2 := by
            have h1 := (Value.slice.inj hvE2).1
            injection h1 with h1
            injection h1
          subst hgg
          dsimp only at y0 y1
          obtain ⟨d0, d1, d2, d3, d4, dz⟩ := blk5 HBA2.out
          have HAT2 : Hid (∀ i q, j + 1 ≤ i → (rs.set j (.slice K2 ka2.length kc2, .slice VA vb.length vc))[i]? = some q → ∃ a b, fs (2 * i) = some (q.1, a) ∧ fs (2 * i + 1) = some (q.2, b) ∧ a.length ≤ 32 ∧ b.length ≤ 64) := Lib.hid fun i q hi hqi => by
            rw [List.getElem?_set, if_neg (by omega)] at hqi
            exact HAT.out i q (by omega) hqi
          have HV1 := Lib.hid hv1
          have HLn2 : Hid ((rs.set j (.slice K2 ka2.length kc2, .slice VA vb.length vc)).length = pn) := Lib.hid (by rw [List.length_set]; exact HLn.out)
          clear S1 FG hrow' hput' hvE' hvE2 hset HOk HY ok' hk' okk okv hka2 hBk hgk a0 a1 a2 a3 a4 az hHeld hq HO HP HAT HBA HF HLn FWA x0 x1 xz hv1 hk1
          by_cases hv0 : 0 < vb.length
          · obtain ⟨y, hy⟩ : ∃ y, vb[0]? = some y := ⟨_, List.getElem?_eq_getElem hv0⟩
            have okv2 := ((S2.out.own (2 * j + 1) _ (by rw [fput_other _ _ (by omega)]; exact HV1.out)).any (T := All))
            dsimp only at okv2
            obtain ⟨gv, cv, hvv, hgv1, hgv2, z0, z1, okv3⟩ := own_byte_put okv2 hy (y + 1)
            obtain rfl : VA = some ⟨gv, 0, none⟩ := (Value.slice.inj hvv).1
            have hw := u8_succ y
            have hn0 : (0 : Int) < (vb.length : Int) := by omega
            have hgg : gv ≠ g := fun e => S2.out.off (2 * j + 1) _ gv (by rw [fput_other _ _ (by omega)]; exact HV1.out) rfl (by rw [e]; rfl)
            have hBv : Ba ≠ gv := fun e => own_ne okv2 HBA2.out (by decide) (by rw [e]; rfl)
            have FG := (Fr.refl (fun b => b ≠ gv) (w'.setCell ⟨g, j * 2, none⟩ (.slice K2 ka2.length kc2))).setCell (p := ⟨gv, 0, none⟩) (fun b hb => hb) (.int .u8 ((y + 1).toNat : Int))
            have S3 := Lib.hid (S2.out.turn (m := 2 * j + 1) (v' := .slice (some ⟨gv, 0, none⟩) vb.length vc) (ys := vb.set 0 (y + 1)) (by rw [fput_other _ _ (by omega)]; exact HV1.out) (okv3.any (T := Nowhere)) (FG.mono fun b hb e => hb (by rw [e]; rfl)) (.inl rfl) (fun m hm => by obtain rfl := Option.some.inj hm; exact (own_lt R2.out g rfl).2))
            have R3 := Lib.hid (R2.out.move FG (fun _ hb _ => hb.elim) fun m hm e => hgg (by obtain rfl := Option.some.inj hm; exact e.symm))
            have HBA3 := Lib.hid ((FG.block Ba (blk_lt HBA2.out) hBv).trans HBA2.out)
            have FW3 := Lib.hid (FW2.out.setNew (p := ⟨gv, 0, none⟩) hgv1 (.int .u8 ((y + 1).toNat : Int)))
            clear okv2 okv3 hvv hy FG hgg hBv
            go_wp2_with fail
            clear a4' x0' y0 y1 z0 z1
            go_roundw
            case rel => exact ⟨j + 1, _, _, by omega, by go_num, HLn2, R3, S3, Lib.hid fun i q hi hqi => by
              obtain ⟨a, b, h1, h2, h3⟩ := HAT2.out i q hi hqi
              exact ⟨a, b, by rw [fput_other _ _ (by omega), fput_other _ _ (by omega)]; exact h1, by rw [fput_other _ _ (by omega), fput_other _ _ (by omega)]; exact h2, h3⟩, HBA3, FW3⟩
            case measure => simp [intOf]; omega
          · have hd0 : decide ((vb.length : Int) > 0) = false := decide_eq_false (by omega)
            go_wp2_with fail
            clear a4' x0' y0 y1
            go_roundw
            case rel => exact ⟨j + 1, _, _, by omega, by go_num, HLn2, R2, S2, Lib.hid fun i q hi hqi => by
              obtain ⟨a, b, h1, h2, h3⟩ := HAT2.out i q hi hqi
              exact ⟨a, b, by rw [fput_other _ _ (by omega)]; exact h1, by rw [fput_other _ _ (by omega)]; exact h2, h3⟩, HBA2, FW2⟩
            case measure => simp [intOf]; omega
        · obtain rfl : j = pn := by omega
          have hBv : (Value.slice A7 j c7).ownBlock ≠ some Ba := own_ne HO.out HBA.out (by decide)
          have FX := ((Fr.refl All wr).alloc (.cells #[.int .u8 1] 5)).alloc (.cells #[.slice (some ⟨wr.heap.size, 0, none⟩) 1 1, .slice none 0 0] 39)
          have HOX := HO.out.all FX
          have HYX : Src kRaw Nowhere ((wr.alloc (.cells #[.int .u8 1] 5)).alloc (.cells #[.slice (some ⟨wr.heap.size, 0, none⟩) 1 1, .slice none 0 0] 39)) (.slice (some ⟨(wr.alloc (.cells #[.int .u8 1] 5)).heap.size, 0, none⟩) 1 1) [(.slice (some ⟨wr.heap.size, 0, none⟩) 1 1, .slice none 0 0)] := Src.box (d := kRaw) (x := (.slice (some ⟨wr.heap.size, 0, none⟩) 1 1, .slice none 0 0)) (cs := [.slice (some ⟨wr.heap.size, 0, none⟩) 1 1, .slice none 0 0]) ⟨rfl, rfl, rfl⟩ _ 1
          rw [World.size_alloc] at HYX
          have hl : (rs.length + [((.slice (some ⟨wr.heap.size, 0, none⟩) 1 1, .slice none 0 0) : Value × Value)].length) * 48 ≤ 140737488355328 := by rw [HLn.out]; simp only [List.length_cons, List.length_nil]; omega
          have hb := Nat.le_trans HF.out.size FX.size
          have hBx := (FX.block _ (blk_lt HBA.out) trivial).trans HBA.out
          go_upto_region 20 with (at_builtin; refine wpList_app rfl rfl Tryd.underlying22 info_ent2 rfl (by decide) HOX HYX rfl rfl (fun _ h _ => h.elim) hl hb ?_; intro v9 w9 o9 f9 h9; obtain ⟨rs9, hrs9⟩ : ∃ l, rs ++ [((.slice (some ⟨wr.heap.size, 0, none⟩) 1 1, .slice none 0 0) : Value × Value)] = l := ⟨_, rfl⟩; rw [hrs9] at o9; obtain ⟨A9, c9, rfl⟩ := o9.length; obtain ⟨d0, d1, d2, d3, d4, dz⟩ := blk5 ((f9.block Ba (blk_lt hBx) (fun e => hBv e.symm)).trans hBx))
          have F10 : Fr All W6 (w9.setCell ⟨Ba, 4, none⟩ (.slice A9 rs9.length c9)) := ((HF.out.trans FX).row f9.grown fun m hm => (own_lt HOX m hm).1).setNew (p := ⟨Ba, 4, none⟩) hBa6 _
          have HF10 := Lib.hid F10
          have HB10 := Lib.hid ((F10.block _ (blk_lt HB6.out) trivial).trans HB6.out)
          obtain ⟨W10, hW10⟩ : ∃ W, w9.setCell ⟨Ba, 4, none⟩ (.slice A9 rs9.length c9) = W := ⟨_, rfl⟩
          rw [hW10] at HF10 HB10 ⊢
          clear a0 a1 a2 a3 a4 az d0 d1 d2 d3 d4 dz F10 hBx hl hb FX HOX HYX o9 f9 h9 hrs9 hW10 hBv HO HP HAT HBA HF HLn
          obtain ⟨p0, p1, p2, p3, p4, pz⟩ := blk5 HB10.out
          go_wp2_with fail
          refine (pool_get_own (H6.out.pk.all HF10.out) hin (puts_has p) HOK.out.ents).mono ?_
          rintro e w11 ⟨A11, c11, rs11, fs11, rfl, o11, s11, hC11, hp11, f11⟩
          rw [En.out] at o11 s11 hC11 ⊢
          have FB := (Fr.refl All w11).alloc (.cells #[.int .i64 p.id, .int .i64 p.lsn, .int .i64 p.level, .int .i64 p.next, .slice A11 j c11] 24)
          have BW := heap_alloc_new w11 (.cells #[.int .i64 p.id, .int .i64 p.lsn, .int .i64 p.level, .int .i64 p.next, .slice A11 j c11] 24)
          have HSb := Lib.hid (hC11.sl En.out (o11.all FB) (s11.all FB))
          have F12 := Lib.hid ((HF10.out.trans f11).trans FB)
          obtain ⟨W12, hW12⟩ : ∃ W, w11.alloc (.cells #[.int .i64 p.id, .int .i64 p.lsn, .int .i64 p.level, .int .i64 p.next, .slice A11 j c11] 24) = W := ⟨_, rfl⟩
          rw [hW12] at BW HSb F12
          clear p0 p1 p2 p3 p4 pz o11 s11 hC11 hp11 f11 FB
          obtain ⟨b0, b1, b2, b3, b4, bz⟩ := blk5 BW
          obtain ⟨p0, p1, p2, p3, p4, pz⟩ := blk5 ((F12.out.block _ (blk_lt HB6.out) trivial).trans HB6.out)
          obtain ⟨r0, r1, r2, r3, r4, rz⟩ := blk5 ((F12.out.block _ (blk_lt HBW.out) trivial).trans HBW.out)
          go_wp2_with fail
          clear hW12
          refine (same_page HSb.out (HSW.out.all F12.out) (by have := HOK.out.en; omega) (fun x hx => by have := HOK.out.es x hx; omega)).mono ?_
          rintro e w13 ⟨rfl, f13⟩
          have F13 := Lib.hid (F12.out.trans f13)
          clear b0 b1 b2 b3 b4 bz p0 p1 p2 p3 p4 pz r0 r1 r2 r3 r4 rz BW
          obtain ⟨p0, p1, p2, p3, p4, pz⟩ := blk5 ((F13.out.block _ (blk_lt HB6.out) trivial).trans HB6.out)
          obtain ⟨r0, r1, r2, r3, r4, rz⟩ := blk5 ((F13.out.block _ (blk_lt HBW.out) trivial).trans HBW.out)
          go_wp2_with fail
          refine (same_page (HS.out.all (F6.out.trans F13.out)) (HSW.out.all F13.out) (by have := HOK.out.en; omega) (fun x hx => by have := HOK.out.es x hx; omega)).mono ?_
          rintro e w14 ⟨rfl, f14⟩
          go_wp2_with fail
          go_ret
          exact ⟨rfl, (F6.out.trans F13.out).trans f14⟩
    · have hc0 : (cd == 0) = false := beq_false_of_ne h0
      clear hcd B3
      go_wp2_with fail
      go_ret
      exact ⟨rfl, F3.out⟩
end Go.Proofs.YticailbipbgihaaDoor
