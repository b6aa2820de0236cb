/- The document's look at a page, with the error's number. -/
import Derived.Test.YtppjpfgjophgkaaDoorWPg
import Derived.Test.YtppjpfgjophgkaaDoorPgI
namespace Go.Proofs.YtppjpfgjophgkaaDoor
open Go.RowKit

theorem pageIx_4 {p : Page} (h : ¬ (0 ≤ p.id ∧ p.id < 256 ∧ 0 ≤ p.lsn ∧ p.lsn ≤ 1099511627776 ∧ 0 ≤ p.level ∧ p.level ≤ 16 ∧ -1 ≤ p.next ∧ p.next < 256)) : pageIx p = some 4 := by unfold pageIx; rw [if_pos h]
theorem pageIx_3 {p : Page} (h : (0 ≤ p.id ∧ p.id < 256 ∧ 0 ≤ p.lsn ∧ p.lsn ≤ 1099511627776 ∧ 0 ≤ p.level ∧ p.level ≤ 16 ∧ -1 ≤ p.next ∧ p.next < 256)) (k : 8 < p.ents.length ∨ ∃ e ∈ p.ents, 32 < e.key.length ∨ 64 < e.val.length) : pageIx p = some 3 := by
  unfold pageIx
  rw [if_neg (fun hn => hn h)]
  split
  · rfl
  · rename_i h8
    rw [if_pos]
    rcases k with k | ⟨e, he, hk⟩
    · exact absurd k h8
    · exact List.any_eq_true.2 ⟨e, he, by rw [Bool.or_eq_true, decide_eq_true_eq, decide_eq_true_eq]; exact hk⟩
theorem pageIx_ok {p : Page} (h : (0 ≤ p.id ∧ p.id < 256 ∧ 0 ≤ p.lsn ∧ p.lsn ≤ 1099511627776 ∧ 0 ≤ p.level ∧ p.level ≤ 16 ∧ -1 ≤ p.next ∧ p.next < 256)) (h8 : p.ents.length ≤ 8) (k : ∀ e ∈ p.ents, e.key.length ≤ 32 ∧ e.val.length ≤ 64) : pageIx p = none := by
  unfold pageIx
  rw [if_neg (fun hn => hn h), if_neg (by omega), if_neg]
  intro hc
  obtain ⟨e, he, hh⟩ := List.any_eq_true.1 hc
  have := k e he
  rw [Bool.or_eq_true, decide_eq_true_eq, decide_eq_true_eq] at hh
  omega
def ixC : Option Nat → Int
  | none => 0
  | some k => 101 + k

set_option maxRecDepth 100000 in
set_option maxHeartbeats 4000000 in
theorem ref_valid_ix {p : Page} {v : Value} {S : Nat → Prop} {w : World} (h : Sl kEnt S w v p.ents) :
    Calls Tryd.prog 10 #[.agg #[.int .i64 p.id, .int .i64 p.lsn, .int .i64 p.level, .int .i64 p.next, v]] w fun e w' => e = .returned (.int .i64 (ixC (pageIx p))) ∧ Fr All w w' := by
  obtain ⟨A, n, c, rfl, en, _⟩ := h.open_
  have B := heap_alloc_new w (.cells #[.int .i64 p.id, .int .i64 p.lsn, .int .i64 p.level, .int .i64 p.next, .slice A n c] 30)
  have F0 := (Fr.refl All w).alloc (.cells #[.int .i64 p.id, .int .i64 p.lsn, .int .i64 p.level, .int .i64 p.next, .slice A n c] 30)
  obtain ⟨W, hW⟩ : ∃ W, w.alloc (.cells #[.int .i64 p.id, .int .i64 p.lsn, .int .i64 p.level, .int .i64 p.next, .slice A n c] 30) = W := ⟨_, rfl⟩
  rw [hW] at B F0
  obtain ⟨p0, p1, p2, p3, p4, pz⟩ := blk5 B
  have HS := Lib.hid (h.all F0)
  have En := Lib.hid en
  clear h en B
  go_enter Tryd.func10, Tryd.ntmps10
  go_wp2_with fail
  refine (ref_page_in p.id W).mono ?_
  rintro e wn ⟨rfl, hwn⟩
  obtain rfl := hwn.symm
  clear hwn hW
  cases h1 : inB p.id 256 with
  | false =>
    have hbad : pageIx p = some 4 := pageIx_4 (by
      have := inB_false.1 h1
      omega)
    have Hbad := Lib.hid hbad
    clear hbad
    go_wp2_with fail
    go_ret
    exact ⟨by rw [Hbad.out]; rfl, F0⟩
  | true =>
    have HI := Lib.hid (inB_iff.1 h1)
    clear h1
    cases l0 : decide (p.lsn < 0) with
    | true =>
      have hbad : pageIx p = some 4 := pageIx_4 (by
        have := of_decide_eq_true l0
        omega)
      have Hbad := Lib.hid hbad
      clear hbad
      go_wp2_with fail
      go_ret
      exact ⟨by rw [Hbad.out]; rfl, F0⟩
    | false =>
      have L0 := Lib.hid l0
      cases l1 : decide (p.lsn > 1099511627776) with
      | true =>
        have hbad : pageIx p = some 4 := pageIx_4 (by
          have := of_decide_eq_true l1
          omega)
        have Hbad := Lib.hid hbad
        clear hbad
        go_wp2_with fail
        go_ret
        exact ⟨by rw [Hbad.out]; rfl, F0⟩
      | false =>
        have L1 := Lib.hid l1
        cases v0 : decide (p.level < 0) with
        | true =>
          have hbad : pageIx p = some 4 := pageIx_4 (by
            have := of_decide_eq_true v0
            omega)
          have Hbad := Lib.hid hbad
          clear hbad
          go_wp2_with fail
          go_ret
          exact ⟨by rw [Hbad.out]; rfl, F0⟩
        | false =>
          have V0 := Lib.hid v0
          cases v1 : decide (p.level > 16) with
          | true =>
            have hbad : pageIx p = some 4 := pageIx_4 (by
              have := of_decide_eq_true v1
              omega)
            have Hbad := Lib.hid hbad
            clear hbad
            go_wp2_with fail
            go_ret
            exact ⟨by rw [Hbad.out]; rfl, F0⟩
          | false =>
            have V1 := Lib.hid v1
            cases x0 : p.next == -1 with
            | true =>
              have HX : Hid (-1 ≤ p.next ∧ p.next < 256) := Lib.hid (by rw [beq_iff_eq] at x0; omega)
              have x1 : (p.next != -1) = false := by unfold bne; rw [x0]; rfl
              clear x0
              have HV : Hid (0 ≤ p.id ∧ p.id < 256 ∧ 0 ≤ p.lsn ∧ p.lsn ≤ 1099511627776 ∧ 0 ≤ p.level ∧ p.level ≤ 16 ∧ -1 ≤ p.next ∧ p.next < 256) := Lib.hid ⟨HI.out.1, HI.out.2, of_decide_eq_false L0.out |> fun h => by omega, of_decide_eq_false L1.out |> fun h => by omega, of_decide_eq_false V0.out |> fun h => by omega, of_decide_eq_false V1.out |> fun h => by omega, HX.out.1, HX.out.2⟩
              by_cases h8 : n ≤ 8
              · have d8 : decide ((n : Int) > 8) = false := decide_eq_false (by omega)
                go_wp2_with fail
                go_loopw [3] (fun i wr => ∃ j : Nat, j ≤ n ∧ i = .int .i64 j ∧ Fr All W wr ∧ Hid (∀ i y, i < j → p.ents[i]? = some y → y.key.length ≤ 32 ∧ y.val.length ≤ 64)) (fun i _ => n - (intOf i).toNat)
                case atStart => exact ⟨0, Nat.zero_le _, rfl, Fr.refl _ _, (fun i y hi => absurd hi (Nat.not_lt_zero _) : ∀ i y, i < 0 → p.ents[i]? = some y → y.key.length ≤ 32 ∧ y.val.length ≤ 64)⟩
                case round =>
                  obtain ⟨j, hj, rfl, HF, HB⟩ := hrel
                  have q4 := HF.cell trivial p4
                  by_cases hlt : j < n
                  · obtain ⟨x, hx, xm⟩ := get_of (l := p.ents) (k := j) (by rw [En.out]; exact hlt)
                    obtain ⟨b, o, A0, n0, c0, A1, n1, c1, rfl, x0, x1, k0, k1⟩ := ent_at (HS.out.all HF) hx
                    have Hx := Lib.hid hx
                    have e0 := k0.len
                    have e1 := k1.len
                    have b0 : (0 : Int) ≤ (j : Int) := by omega
                    have b1 : (j : Int) < (n : Int) := by omega
                    have E0 := Lib.hid e0
                    have E1 := Lib.hid e1
                    clear hx xm e0 e1 k0 k1
                    by_cases hk : 32 < n0
                    · have hd : decide ((n0 : Int) > 32) = true := decide_eq_true (by omega)
                      go_wp2_with fail
                      go_ret
                      exact ⟨by rw [pageIx_3 HV.out (Or.inr ⟨x, List.mem_of_getElem? Hx.out, Or.inl (by rw [E0.out]; exact hk)⟩)]; rfl, F0.trans HF⟩
                    · have hd : decide ((n0 : Int) > 32) = false := decide_eq_false (by omega)
                      by_cases hv : 64 < n1
                      · have hd2 : decide ((n1 : Int) > 64) = true := decide_eq_true (by omega)
                        go_wp2_with fail
                        go_ret
                        exact ⟨by rw [pageIx_3 HV.out (Or.inr ⟨x, List.mem_of_getElem? Hx.out, Or.inr (by rw [E1.out]; exact hv)⟩)]; rfl, F0.trans HF⟩
                      · have hd2 : decide ((n1 : Int) > 64) = false := decide_eq_false (by omega)
                        have HB2 : Hid (∀ i y, i < j + 1 → p.ents[i]? = some y → y.key.length ≤ 32 ∧ y.val.length ≤ 64) := Lib.hid fun i y hi hy => by
                          by_cases hij : i = j
                          · subst hij
                            obtain rfl := Option.some.inj (Hx.out.symm.trans hy)
                            rw [E0.out, E1.out]
                            omega
                          · exact HB.out i y (by omega) hy
                        go_wp2_with fail
                        go_roundw
                        case rel => exact ⟨j + 1, by omega, by go_num, HF, HB2⟩
                        case measure => simp [intOf]; omega
                  · obtain rfl : j = n := by omega
                    go_wp2_with fail
                    go_ret
                    have hok := pageIx_ok HV.out (by rw [En.out]; exact h8) (fun e he => by
                      obtain ⟨i, hi⟩ := List.mem_iff_getElem?.1 he
                      exact HB.out i e (by rw [← En.out]; exact (List.getElem?_eq_some_iff.1 hi).1) hi)
                    exact ⟨by rw [hok]; rfl, F0.trans HF⟩
              · have d8 : decide ((n : Int) > 8) = true := decide_eq_true (by omega)
                go_wp2_with fail
                go_ret
                exact ⟨by rw [pageIx_3 HV.out (Or.inl (by rw [En.out]; omega))]; rfl, F0⟩
            | false =>
              have x1 : (p.next != -1) = true := by unfold bne; rw [x0]; rfl
              clear x0
              go_wp2_with fail
              refine (ref_page_in p.next W).mono ?_
              rintro e wn ⟨rfl, hwn⟩
              obtain rfl := hwn.symm
              clear hwn
              cases h2 : inB p.next 256 with
              | false =>
                have hbad : pageIx p = some 4 := pageIx_4 (by
                  have := And.intro (inB_false.1 h2) (bne_iff_ne.1 x1)
                  omega)
                have Hbad := Lib.hid hbad
                clear hbad
                go_wp2_with fail
                go_ret
                exact ⟨by rw [Hbad.out]; rfl, F0⟩
              | true =>
                have HX : Hid (-1 ≤ p.next ∧ p.next < 256) := Lib.hid (by have := inB_iff.1 h2; omega)
                clear h2
                have HV : Hid (0 ≤ p.id ∧ p.id < 256 ∧ 0 ≤ p.lsn ∧ p.lsn ≤ 1099511627776 ∧ 0 ≤ p.level ∧ p.level ≤ 16 ∧ -1 ≤ p.next ∧ p.next < 256) := Lib.hid ⟨HI.out.1, HI.out.2, of_decide_eq_false L0.out |> fun h => by omega, of_decide_eq_false L1.out |> fun h => by omega, of_decide_eq_false V0.out |> fun h => by omega, of_decide_eq_false V1.out |> fun h => by omega, HX.out.1, HX.out.2⟩
                by_cases h8 : n ≤ 8
                · have d8 : decide ((n : Int) > 8) = false := decide_eq_false (by omega)
                  go_wp2_with fail
                  go_loopw [3] (fun i wr => ∃ j : Nat, j ≤ n ∧ i = .int .i64 j ∧ Fr All W wr ∧ Hid (∀ i y, i < j → p.ents[i]? = some y → y.key.length ≤ 32 ∧ y.val.length ≤ 64)) (fun i _ => n - (intOf i).toNat)
                  case atStart => exact ⟨0, Nat.zero_le _, rfl, Fr.refl _ _, (fun i y hi => absurd hi (Nat.not_lt_zero _) : ∀ i y, i < 0 → p.ents[i]? = some y → y.key.length ≤ 32 ∧ y.val.length ≤ 64)⟩
                  case round =>
                    obtain ⟨j, hj, rfl, HF, HB⟩ := hrel
                    have q4 := HF.cell trivial p4
                    by_cases hlt : j < n
                    · obtain ⟨x, hx, xm⟩ := get_of (l := p.ents) (k := j) (by rw [En.out]; exact hlt)
                      obtain ⟨b, o, A0, n0, c0, A1, n1, c1, rfl, x0, x1, k0, k1⟩ := ent_at (HS.out.all HF) hx
                      have Hx := Lib.hid hx
                      have e0 := k0.len
                      have e1 := k1.len
                      have b0 : (0 : Int) ≤ (j : Int) := by omega
                      have b1 : (j : Int) < (n : Int) := by omega
                      have E0 := Lib.hid e0
                      have E1 := Lib.hid e1
                      clear hx xm e0 e1 k0 k1
                      by_cases hk : 32 < n0
                      · have hd : decide ((n0 : Int) > 32) = true := decide_eq_true (by omega)
                        go_wp2_with fail
                        go_ret
                        exact ⟨by rw [pageIx_3 HV.out (Or.inr ⟨x, List.mem_of_getElem? Hx.out, Or.inl (by rw [E0.out]; exact hk)⟩)]; rfl, F0.trans HF⟩
                      · have hd : decide ((n0 : Int) > 32) = false := decide_eq_false (by omega)
                        by_cases hv : 64 < n1
                        · have hd2 : decide ((n1 : Int) > 64) = true := decide_eq_true (by omega)
                          go_wp2_with fail
                          go_ret
                          exact ⟨by rw [pageIx_3 HV.out (Or.inr ⟨x, List.mem_of_getElem? Hx.out, Or.inr (by rw [E1.out]; exact hv)⟩)]; rfl, F0.trans HF⟩
                        · have hd2 : decide ((n1 : Int) > 64) = false := decide_eq_false (by omega)
                          have HB2 : Hid (∀ i y, i < j + 1 → p.ents[i]? = some y → y.key.length ≤ 32 ∧ y.val.length ≤ 64) := Lib.hid fun i y hi hy => by
                            by_cases hij : i = j
                            · subst hij
                              obtain rfl := Option.some.inj (Hx.out.symm.trans hy)
                              rw [E0.out, E1.out]
                              omega
                            · exact HB.out i y (by omega) hy
                          go_wp2_with fail
                          go_roundw
                          case rel => exact ⟨j + 1, by omega, by go_num, HF, HB2⟩
                          case measure => simp [intOf]; omega
                    · obtain rfl : j = n := by omega
                      go_wp2_with fail
                      go_ret
                      have hok := pageIx_ok HV.out (by rw [En.out]; exact h8) (fun e he => by
                        obtain ⟨i, hi⟩ := List.mem_iff_getElem?.1 he
                        exact HB.out i e (by rw [← En.out]; exact (List.getElem?_eq_some_iff.1 hi).1) hi)
                      exact ⟨by rw [hok]; rfl, F0.trans HF⟩
                · have d8 : decide ((n : Int) > 8) = true := decide_eq_true (by omega)
                  go_wp2_with fail
                  go_ret
                  exact ⟨by rw [pageIx_3 HV.out (Or.inl (by rw [En.out]; omega))]; rfl, F0⟩
end Go.Proofs.YtppjpfgjophgkaaDoor
