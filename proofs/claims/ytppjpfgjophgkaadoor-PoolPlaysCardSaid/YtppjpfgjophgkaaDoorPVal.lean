/- page.Valid, with its errors. -/
import Derived.Test.YtppjpfgjophgkaaDoorRefVE
import Derived.Test.YtppjpfgjophgkaaDoorValid
import Derived.Test.YtppjpfgjophgkaaDoorE
namespace Go.Proofs.YtppjpfgjophgkaaDoor
open Go.RowKit

theorem errAt_is {qs : List Addr} {k : Nat} {a : Addr} (h : qs[k]? = some a) : errAt qs (some k) = errV a := by
  unfold errAt
  simp only [h]
set_option maxRecDepth 100000 in
set_option maxHeartbeats 4000000 in
theorem page_valid_ix {qs : List Addr} {w : World} {p : Page} {v : Value} {S : Nat → Prop} (he : Errs w qs) (hs : Sl kEnt S w v p.ents) :
    Calls Tryd.prog 32 #[.agg #[.int .i64 p.id, .int .i64 p.lsn, .int .i64 p.level, .int .i64 p.next, v]] w fun e w' => e = .returned (errAt qs (pageIx p)) ∧ Fr All w w' := by
  obtain ⟨A, n, c, rfl, en, hnc⟩ := hs.open_
  have En := Lib.hid en
  have B0 := heap_alloc_new w (.cells #[.int .i64 p.id, .int .i64 p.lsn, .int .i64 p.level, .int .i64 p.next, .slice A n c] 30)
  have F0 := (Fr.refl All w).alloc (.cells #[.int .i64 p.id, .int .i64 p.lsn, .int .i64 p.level, .int .i64 p.next, .slice A n c] 30)
  obtain ⟨p0, p1, p2, p3, p4, pz⟩ := blk5 B0
  obtain ⟨W, hW⟩ : ∃ W, w.alloc (.cells #[.int .i64 p.id, .int .i64 p.lsn, .int .i64 p.level, .int .i64 p.next, .slice A n c] 30) = W := ⟨_, rfl⟩
  rw [hW] at F0 p0 p1 p2 p3 p4 pz
  have HS := Lib.hid (hs.all F0)
  have heW := he.move F0
  obtain ⟨aR, qR, gR⟩ := heW.at 4 "sextet/api.ErrRange" 0 rfl (by kernel_rfl)
  obtain ⟨aM, qM, gM⟩ := heW.at 3 "sextet/api.ErrMany" 1 rfl (by kernel_rfl)
  have HR := Lib.hid qR
  have HM := Lib.hid qM
  unfold errV at gR gM
  have hm1 : (-1 : Int) ≤ 0 := by omega
  clear en hs B0 he heW qR qM hnc hm1
  go_enter Tryd.func32, Tryd.ntmps32
  cases d1 : decide (p.id < 0) with
  | true =>
    have hbad : pageIx p = some 4 := pageIx_4 (by
      have := of_decide_eq_true d1
      omega)
    have Hbad := Lib.hid hbad
    clear hbad
    go_wp2_with fail
    go_ret
    exact ⟨by rw [Hbad.out, errAt_is HR.out]; rfl, F0⟩
  | false =>
  cases d2 : decide (p.id ≥ 256) with
  | true =>
    have hbad : pageIx p = some 4 := pageIx_4 (by
      have := of_decide_eq_true d2
      omega)
    have Hbad := Lib.hid hbad
    clear hbad
    go_wp2_with fail
    go_ret
    exact ⟨by rw [Hbad.out, errAt_is HR.out]; rfl, F0⟩
  | false =>
  cases d3 : decide (p.lsn < 0) with
  | true =>
    have hbad : pageIx p = some 4 := pageIx_4 (by
      have := of_decide_eq_true d3
      omega)
    have Hbad := Lib.hid hbad
    clear hbad
    go_wp2_with fail
    go_ret
    exact ⟨by rw [Hbad.out, errAt_is HR.out]; rfl, F0⟩
  | false =>
  cases d4 : decide (p.lsn > 1099511627776) with
  | true =>
    have hbad : pageIx p = some 4 := pageIx_4 (by
      have := of_decide_eq_true d4
      omega)
    have Hbad := Lib.hid hbad
    clear hbad
    go_wp2_with fail
    go_ret
    exact ⟨by rw [Hbad.out, errAt_is HR.out]; rfl, F0⟩
  | false =>
  cases d5 : decide (p.level < 0) with
  | true =>
    have hbad : pageIx p = some 4 := pageIx_4 (by
      have := of_decide_eq_true d5
      omega)
    have Hbad := Lib.hid hbad
    clear hbad
    go_wp2_with fail
    go_ret
    exact ⟨by rw [Hbad.out, errAt_is HR.out]; rfl, F0⟩
  | false =>
  cases d6 : decide (p.level > 16) with
  | true =>
    have hbad : pageIx p = some 4 := pageIx_4 (by
      have := of_decide_eq_true d6
      omega)
    have Hbad := Lib.hid hbad
    clear hbad
    go_wp2_with fail
    go_ret
    exact ⟨by rw [Hbad.out, errAt_is HR.out]; rfl, F0⟩
  | false =>
  cases d7 : decide (p.next < -1) with
  | true =>
    have hbad : pageIx p = some 4 := pageIx_4 (by
      have := of_decide_eq_true d7
      omega)
    have Hbad := Lib.hid hbad
    clear hbad
    go_wp2_with fail
    go_ret
    exact ⟨by rw [Hbad.out, errAt_is HR.out]; rfl, F0⟩
  | false =>
  cases d8 : decide (p.next ≥ 256) with
  | true =>
    have hbad : pageIx p = some 4 := pageIx_4 (by
      have := of_decide_eq_true d8
      omega)
    have Hbad := Lib.hid hbad
    clear hbad
    go_wp2_with fail
    go_ret
    exact ⟨by rw [Hbad.out, errAt_is HR.out]; rfl, F0⟩
  | false =>
  have HV : Hid (0 ≤ p.id ∧ p.id < 256 ∧ 0 ≤ p.lsn ∧ p.lsn ≤ 1099511627776 ∧ 0 ≤ p.level ∧ p.level ≤ 16 ∧ -1 ≤ p.next ∧ p.next < 256) := Lib.hid (by
    have h1 := of_decide_eq_false d1
    have h2 := of_decide_eq_false d2
    have h3 := of_decide_eq_false d3
    have h4 := of_decide_eq_false d4
    have h5 := of_decide_eq_false d5
    have h6 := of_decide_eq_false d6
    have h7 := of_decide_eq_false d7
    have h8 := of_decide_eq_false d8
    omega)
  by_cases h8 : n ≤ 8
  · have d9 : decide ((n : Int) > 8) = false := decide_eq_false (by omega)
    go_wp2_with fail
    go_loopw [52] (fun i wr => ∃ j : Nat, j ≤ n ∧ i = .int .i64 j ∧ Fr All W wr ∧ Hid (∀ i y, i < j → p.ents[i]? = some y → y.key.length ≤ 32 ∧ y.val.length ≤ 64)) (fun i _ => n - (intOf i).toNat)
    case atStart => exact ⟨0, Nat.zero_le _, rfl, Fr.refl _ _, (fun i y hi => absurd hi (Nat.not_lt_zero _) : ∀ i y, i < 0 → p.ents[i]? = some y → y.key.length ≤ 32 ∧ y.val.length ≤ 64)⟩
    case round =>
      obtain ⟨j, hj, rfl, HF, HB⟩ := hrel
      have q4 := HF.cell trivial p4
      have qM := HF.cell (p := ⟨1, 0, none⟩) trivial gM
      by_cases hlt : j < n
      · obtain ⟨x, hx, xm⟩ := get_of (l := p.ents) (k := j) (by rw [En.out]; exact hlt)
        obtain ⟨b, o, A0, n0, c0, A1, n1, c1, rfl, x0, x1, k0, k1⟩ := ent_at (HS.out.all HF) hx
        have Hx := Lib.hid hx
        have e0 := k0.len
        have e1 := k1.len
        have b0 : (0 : Int) ≤ (j : Int) := by omega
        have b1 : (j : Int) < (n : Int) := by omega
        have E0 := Lib.hid e0
        have E1 := Lib.hid e1
        have FA := HF.alloc (.cells #[.slice A0 n0 c0, .slice A1 n1 c1] 65)
        have qMA := FA.cell (p := ⟨1, 0, none⟩) trivial gM
        clear hx xm e0 e1 k0 k1 gR gM
        by_cases hk : 32 < n0
        · have hd : decide ((n0 : Int) > 32) = true := decide_eq_true (by omega)
          go_wp2_with fail
          go_ret
          exact ⟨by rw [pageIx_3 HV.out (Or.inr ⟨x, List.mem_of_getElem? Hx.out, Or.inl (by rw [E0.out]; exact hk)⟩), errAt_is HM.out]; rfl, F0.trans FA⟩
        · have hd : decide ((n0 : Int) > 32) = false := decide_eq_false (by omega)
          by_cases hv : 64 < n1
          · have hd2 : decide ((n1 : Int) > 64) = true := decide_eq_true (by omega)
            go_wp2_with fail
            go_ret
            exact ⟨by rw [pageIx_3 HV.out (Or.inr ⟨x, List.mem_of_getElem? Hx.out, Or.inr (by rw [E1.out]; exact hv)⟩), errAt_is HM.out]; rfl, F0.trans FA⟩
          · have hd2 : decide ((n1 : Int) > 64) = false := decide_eq_false (by omega)
            have HB2 : Hid (∀ i y, i < j + 1 → p.ents[i]? = some y → y.key.length ≤ 32 ∧ y.val.length ≤ 64) := Lib.hid fun i y hi hy => by
              by_cases hij : i = j
              · subst hij
                obtain rfl := Option.some.inj (Hx.out.symm.trans hy)
                rw [E0.out, E1.out]
                omega
              · exact HB.out i y (by omega) hy
            go_wp2_with fail
            go_roundw
            case rel => exact ⟨j + 1, by omega, by go_num, FA, HB2⟩
            case measure => simp [intOf]; omega
      · obtain rfl : j = n := by omega
        go_wp2_with fail
        go_ret
        have hok := pageIx_ok HV.out (by rw [En.out]; exact h8) (fun e he => by
          obtain ⟨i, hi⟩ := List.mem_iff_getElem?.1 he
          exact HB.out i e (by rw [← En.out]; exact (List.getElem?_eq_some_iff.1 hi).1) hi)
        exact ⟨by rw [hok]; rfl, F0.trans HF⟩
  · have d9 : decide ((n : Int) > 8) = true := decide_eq_true (by omega)
    go_wp2_with fail
    go_ret
    exact ⟨by rw [pageIx_3 HV.out (Or.inl (by rw [En.out]; omega)), errAt_is HM.out]; rfl, F0⟩
end Go.Proofs.YtppjpfgjophgkaaDoor
