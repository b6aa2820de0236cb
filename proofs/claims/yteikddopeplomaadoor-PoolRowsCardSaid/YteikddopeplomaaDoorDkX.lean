/- The disk's Crash. -/
import Derived.Test.YteikddopeplomaaDoorDkC
import Derived.Test.YteikddopeplomaaDoorDkP
import Derived.Test.YteikddopeplomaaDoorRef
namespace Go.Proofs.YteikddopeplomaaDoor
open Go.RowKit Go.Maps

/-- Behind a crash. -/
def DSt.crashed (s : DSt) (m : Int → Option (List UInt8)) (n : Nat) : DSt := { s with syn := m, ns := n, pen := fun _ => none, np := 0, down := false, arm := 0 }
/-- The keys of what is pending, rising. -/
structure DSt.Keys (s : DSt) (ks : List Int) : Prop where
  len : ks.length = s.np
  rise : ks.Pairwise (· < ·)
  mem : ∀ k, k ∈ ks ↔ In64 k ∧ (s.pen k).isSome
def odd64 (p : Int) : Bool := bits .and .i64 p 1 == 1

theorem pickTo_skip {od : Int → Bool} {pen m : Int → Option (List UInt8)} {ks ps : List Int} {j : Nat} (h : isPick od ps j = false) : pickTo od pen m ks ps (j + 1) = pickTo od pen m ks ps j := by
  rw [pickTo, h, if_neg (by simp)]
theorem pickTo_take {od : Int → Bool} {pen m : Int → Option (List UInt8)} {ks ps : List Int} {j : Nat} {k : Int} {xs : List UInt8} (h : isPick od ps j = true) (hk : ks[j]? = some k) (hx : pen k = some xs) : pickTo od pen m ks ps (j + 1) = upd (pickTo od pen m ks ps j) k xs := by
  rw [pickTo, h, if_pos rfl, List.getD_eq_getElem?_getD, hk, Option.getD_some, hx, Option.getD_some]

set_option hygiene false in
set_option maxRecDepth 100000 in
set_option maxHeartbeats 2000000 in
theorem crash_call {w : World} {B bs bp : Nat} {s : DSt} {v : Value} {ps : List Int} {S : Nat → Prop} (h : Dk w B bs bp s) (hv : Sl kInt S w v ps) (hS : ∀ x, S x → x < w.heap.size → Off B bs bp x) (hn : s.ns + s.np ≤ 100000) (hl : ps.length ≤ 1000000) :
    Calls Tryd.prog 37 #[.pointer (some ⟨B, 0, none⟩), v] w fun e w' => e = .returned (.tuple #[]) ∧ ∃ ks n', s.Keys ks ∧ n' ≤ s.ns + s.np ∧ Dk w' B bs bp (s.crashed (pickTo odd64 s.pen s.syn ks ps ks.length) n') ∧ Fr (Off B bs bp) w w' := by
  obtain ⟨PA, pn, pc, rfl, epn, _⟩ := hv.open_
  have hv := (hv.mono hS)
  have HV := Lib.hid hv
  have H := Lib.hid h
  have q2 := h.c2
  clear h hv hS
  go_enter Tryd.func37, Tryd.ntmps37
  go_wp2_with fail
  refine (keys_call _ _).mono ?_
  rintro e W ⟨rfl, hW⟩
  have F0 := (Fr.refl All w).alloc (.cells #[.map (some bp)] 103)
  have B0 := heap_alloc_new w (.cells #[.map (some bp)] 103)
  rw [← hW] at F0 B0
  clear hW
  obtain ⟨b0, _⟩ := blk1 B0
  go_wp2_with fail
  refine (sorted_map (H.out.pen.all F0) b0 (by omega)).mono ?_
  rintro e w1 ⟨A, c, ks, rfl, hkl, hrise, hmem, ho, f1⟩
  have HK : Hid (s.Keys ks) := Lib.hid ⟨hkl, hrise, hmem⟩
  have FF := F0.trans f1
  have l1 := H.out.lt
  have l2 := H.out.syn.lt
  have l3 := H.out.pen.lt
  have hks : Sl kInt (Off B bs bp) w1 (.slice A s.np c) ks := ho.plain_in fun b hb _ => ⟨by have := F0.size; omega, by have := F0.size; omega, by have := F0.size; omega⟩
  have HKS := Lib.hid hks
  clear ho hkl hrise hmem hks b0 B0
  go_wp2_with fail
  have HD1 := Lib.hid (H.out.all FF)
  have hnp : s.np ≤ 100000 := by omega
  go_loopw [13] (fun i wr => ∃ j n' : Nat, j ≤ s.np ∧ i = .int .i64 j ∧ n' ≤ s.ns + j ∧ Hid (Dk wr B bs bp { s with syn := pickTo odd64 s.pen s.syn ks ps j, ns := n' }) ∧ Fr (Off B bs bp) w1 wr) (fun i _ => s.np - (intOf i).toNat)
  case atStart => exact ⟨0, s.ns, Nat.zero_le _, rfl, by omega, HD1, Fr.refl _ _⟩
  case round =>
    obtain ⟨j, n', hj, rfl, hn', HD, FR⟩ := hrel
    by_cases hlt : j < s.np
    · obtain ⟨k, hk, hkm⟩ := get_of (l := ks) (k := j) (by rw [HK.out.len]; exact hlt)
      obtain ⟨a, o, rfl, ck⟩ := (HKS.out.move FR).at1 hk
      have hkp := (HK.out.mem k).1 hkm
      obtain ⟨xs, hxs⟩ := Option.isSome_iff_exists.1 hkp.2
      have HX := Lib.hid hxs
      have HKP := Lib.hid hkp
      have HKJ := Lib.hid hk
      have b0 : (0 : Int) ≤ (j : Int) := by omega
      have b1 : (j : Int) < (s.np : Int) := by omega
      clear hk hkm hkp hxs
      by_cases hp : j < pn
      · obtain ⟨p, hpj, _⟩ := get_of (l := ps) (k := j) (by rw [epn]; exact hp)
        obtain ⟨pa, po, rfl, cp⟩ := ((HV.out.all FF).move FR).at1 hpj
        have b2 : (j : Int) < (pn : Int) := by omega
        have HPJ := Lib.hid hpj
        clear hpj
        cases hz : (bits .and .i64 p 1 == 1) with
        | false =>
          have hip : isPick odd64 ps j = false := by
            unfold isPick
            rw [HPJ.out]
            exact hz
          have HS := Lib.hid (pickTo_skip (pen := s.pen) (m := s.syn) (ks := ks) hip)
          clear hip
          go_wp2_with fail
          go_roundw
          case rel => exact ⟨j + 1, n', by omega, by go_num, by omega, by rw [HS.out]; exact HD, FR⟩
          case measure => simp [intOf]; omega
        | true =>
          have hip : isPick odd64 ps j = true := by
            unfold isPick
            rw [HPJ.out]
            exact hz
          have HS := Lib.hid (pickTo_take (m := s.syn) hip HKJ.out HX.out)
          clear hip
          go_upto_region 4 with (fail)
          have D := HD.out.all (Fr.refl All wr).drew
          have d1 := D.c1
          have d2 := D.c2
          obtain ⟨XA, xl, xc, hr, hx, _⟩ := D.pen.at_some Tryd.underlying3 Tryd.underlying103 zeroRow HKP.out.1 HX.out
          obtain ⟨w3, hr3, m3, f3⟩ := D.syn.put Tryd.underlying3 Tryd.underlying103 HKP.out.1 (by dsimp only; omega) hx (fun x hx => hx.2.1)
          dsimp only at m3
          have HH := Lib.hid m3
          have HDr := Lib.hid D
          clear D m3 hx
          refine wp_region_last (S := fun w' => w' = wr.drew) 11 (by kernel_rfl) rfl (by kernel_rfl) rfl (fun hHeld => ?_)
          simp only [List.take_succ_cons, List.take_zero]
          refine wpAnyH_take (i := 0) (v := ?_) rfl (by kernel_rfl) (by kernel_rfl) (by kernel_rfl) (fun _ _ _ h => h) (Or.inl ⟨by rfl, ?_⟩) (by assumption) ?_
          rotate_left
          · (intro w hSw; subst hSw; go_simp; try with_reducible rfl)
          try simp only [Act.put]
          try simp only [List.setIfInBounds_toArray]
          try simp only [List.set_cons_succ]
          try simp only [List.set_cons_zero]
          refine wpAnyH_take (i := 1) (v := ?_) rfl (by kernel_rfl) (by kernel_rfl) (by kernel_rfl) (fun _ _ _ h => h) (Or.inl ⟨by rfl, ?_⟩) (by assumption) ?_
          rotate_left
          · (intro w hSw; subst hSw; go_simp; try with_reducible rfl)
          try simp only [Act.put]
          try simp only [List.setIfInBounds_toArray]
          try simp only [List.set_cons_succ]
          try simp only [List.set_cons_zero]
          refine wpAnyH_take (i := 2) (v := ?_) rfl (by kernel_rfl) (by kernel_rfl) (by kernel_rfl) (fun _ _ _ h => h) (Or.inl ⟨by rfl, ?_⟩) (by assumption) ?_
          rotate_left
          · (intro w hSw; subst hSw; go_simp; try with_reducible rfl)
          try simp only [Act.put]
          try simp only [List.setIfInBounds_toArray]
          try simp only [List.set_cons_succ]
          try simp only [List.set_cons_zero]
          refine wpAnyH_take (i := 3) (v := ?_) rfl (by kernel_rfl) (by kernel_rfl) (by kernel_rfl) (fun _ _ _ h => h) (Or.inl ⟨by rfl, ?_⟩) (by assumption) ?_
          rotate_left
          · (intro w hSw; subst hSw; go_simp; try with_reducible rfl)
          try simp only [Act.put]
          try simp only [List.setIfInBounds_toArray]
          try simp only [List.set_cons_succ]
          try simp only [List.set_cons_zero]
          refine wpAnyH_take (i := 4) (v := ?_) rfl (by kernel_rfl) (by kernel_rfl) (by kernel_rfl) (fun _ _ _ h => h) (Or.inl ⟨by rfl, ?_⟩) (by assumption) ?_
          rotate_left
          · (intro w hSw; subst hSw; go_simp; try with_reducible rfl)
          try simp only [Act.put]
          try simp only [List.setIfInBounds_toArray]
          try simp only [List.set_cons_succ]
          try simp only [List.set_cons_zero]
          refine wpAnyH_take (i := 5) (v := ?_) rfl (by kernel_rfl) (by kernel_rfl) (by kernel_rfl) (fun _ _ _ h => h) (Or.inl ⟨by rfl, ?_⟩) (by assumption) ?_
          rotate_left
          · (intro w hSw; subst hSw; go_simp; try with_reducible rfl)
          try simp only [Act.put]
          try simp only [List.setIfInBounds_toArray]
          try simp only [List.set_cons_succ]
          try simp only [List.set_cons_zero]
          refine wpAnyH_take (i := 6) (v := ?_) rfl (by kernel_rfl) (by kernel_rfl) (by kernel_rfl) (fun _ _ _ h => h) (Or.inl ⟨by rfl, ?_⟩) (by assumption) ?_
          rotate_left
          · (intro w hSw; subst hSw; go_simp; try with_reducible rfl)
          try simp only [Act.put]
          try simp only [List.setIfInBounds_toArray]
          try simp only [List.set_cons_succ]
          try simp only [List.set_cons_zero]
          refine wpAnyH_take (i := 7) (v := ?_) rfl (by kernel_rfl) (by kernel_rfl) (by kernel_rfl) (fun _ _ _ h => h) (Or.inl ⟨by rfl, ?_⟩) (by assumption) ?_
          rotate_left
          · (intro w hSw; subst hSw; go_simp; try with_reducible rfl)
          try simp only [Act.put]
          try simp only [List.setIfInBounds_toArray]
          try simp only [List.set_cons_succ]
          try simp only [List.set_cons_zero]
          refine wpAnyH_take (i := 8) (v := ?_) rfl (by kernel_rfl) (by kernel_rfl) (by kernel_rfl) (fun _ _ _ h => h) (Or.inl ⟨by rfl, ?_⟩) (by assumption) ?_
          rotate_left
          · (intro w hSw; subst hSw; go_simp; try with_reducible rfl)
          try simp only [Act.put]
          try simp only [List.setIfInBounds_toArray]
          try simp only [List.set_cons_succ]
          try simp only [List.set_cons_zero]
          refine wpAnyH_take (i := 9) (v := ?_) rfl (by kernel_rfl) (by kernel_rfl) (by kernel_rfl) (fun _ _ _ h => h) (Or.inl ⟨by rfl, ?_⟩) (by assumption) ?_
          rotate_left
          · (intro w hSw; subst hSw; go_simp; try with_reducible rfl)
          try simp only [Act.put]
          try simp only [List.setIfInBounds_toArray]
          try simp only [List.set_cons_succ]
          try simp only [List.set_cons_zero]
          refine wpAnyH_take (i := 10) (v := ?_) rfl (by kernel_rfl) (by kernel_rfl) (by kernel_rfl) (fun _ _ _ h => h) (Or.inl ⟨by rfl, ?_⟩) (by assumption) ?_
          rotate_left
          · (intro w hSw; subst hSw; go_simp; try with_reducible rfl)
          try simp only [Act.put]
          try simp only [List.setIfInBounds_toArray]
          try simp only [List.set_cons_succ]
          try simp only [List.set_cons_zero]
          clear hHeld
          refine wpAnyH_done (by kernel_rfl) ?_ _
          show wpList _ _ _ _ _ _
          go_wp2_with fail
          have D3 : Dk w3 B bs bp { s with syn := upd (pickTo odd64 s.pen s.syn ks ps j) k xs, ns := (if (pickTo odd64 s.pen s.syn ks ps j k).isSome = true then n' else n' + 1) } := HDr.out.stays f3 HDr.out.n1 rfl rfl rfl rfl HH.out (HDr.out.pen.move f3 (Ne.symm HDr.out.n3) fun x hx _ => hx.2.1)
          have F3 : Fr (Off B bs bp) w1 w3 := FR.drew.trans (f3.mono fun x hx => hx.2.1)
          obtain ⟨n2, hn2⟩ : ∃ n2, (if (pickTo odd64 s.pen s.syn ks ps j k).isSome = true then n' else n' + 1) = n2 := ⟨_, rfl⟩
          have hle : n2 ≤ s.ns + (j + 1) := by
            rw [← hn2]
            split <;> omega
          rw [hn2] at D3
          rw [← HS.out] at D3
          clear HH hn2
          have HD4 := Lib.hid D3
          clear D3
          go_roundw
          case rel => exact ⟨j + 1, n2, by omega, by go_num, hle, HD4, F3⟩
          case measure => simp [intOf]; omega
      · have hip : isPick odd64 ps j = false := by
          unfold isPick
          rw [List.getElem?_eq_none (by omega)]
        have HS := Lib.hid (pickTo_skip (pen := s.pen) (m := s.syn) (ks := ks) hip)
        have b2 : decide ((j : Int) < (pn : Int)) = false := decide_eq_false (by omega)
        clear hip
        go_wp2_with fail
        go_roundw
        case rel => exact ⟨j + 1, n', by omega, by go_num, by omega, by rw [HS.out]; exact HD, FR⟩
        case measure => simp [intOf]; omega
    · obtain rfl : j = s.np := by omega
      have q2 := HD.out.c2
      obtain ⟨w3, hr, m3, f3⟩ := HD.out.pen.clear Tryd.underlying103 0
      have D3 : Dk w3 B bs bp { s with syn := pickTo odd64 s.pen s.syn ks ps s.np, ns := n', pen := fun _ => none, np := 0 } := HD.out.stays f3 HD.out.n2 rfl rfl rfl rfl (HD.out.syn.move f3 HD.out.n3 fun x hx _ => hx.2.2) m3
      obtain ⟨c0, c1, c2, c3, c4, c5, cz⟩ : _ ∧ _ ∧ _ ∧ _ ∧ _ ∧ _ ∧ _ := ⟨D3.c0, D3.c1, D3.c2, D3.c3, D3.c4, D3.c5, D3.cz⟩
      have H3 := Lib.hid D3
      clear D3 m3
      dsimp only at c0 c1 c2 c3 c4 c5
      go_wp2_with fail
      go_end0
      have F5 : Fr (fun x => x ≠ B) w3 ((w3.setCell ⟨B, 5, none⟩ (.bool false)).setCell ⟨B, 4, none⟩ (.int .i64 0)) := ((Fr.refl _ _).setCell (fun m hm => by exact hm) _).setCell (fun m hm => by exact hm) _
      refine ⟨rfl, ks, n', HK.out, hn', ?_, (((FF.mono fun _ _ => trivial).trans FR).trans (f3.mono fun x (hx : Off B bs bp x) => hx.2.2)).trans (F5.mono fun x (hx : Off B bs bp x) => hx.1)⟩
      rw [HK.out.len]
      unfold DSt.crashed
      refine H3.out.cells F5 rfl rfl rfl rfl ?_ ?_ ?_ ?_ ?_ ?_ ?_
      · go_simp
      · go_simp
      · go_simp
      · go_simp
      · go_simp
      · go_simp
      · intro j
        go_simp
end Go.Proofs.YteikddopeplomaaDoor
