/- sextetworld.Page; the document's look at a page, and its copy of one. -/
import Derived.Test.YtppjpfgjophgkaaDoorRef
import Derived.Test.YtppjpfgjophgkaaDoorPClone
import Derived.Test.YtppjpfgjophgkaaDoorRefY
import Derived.Test.YtppjpfgjophgkaaDoorVIx
import Derived.Test.YtppjpfgjophgkaaDoorLast3
import Derived.Deep.Cut
namespace Go.Proofs.YtppjpfgjophgkaaDoor
open Go.RowKit

/-- Whether a page has few entries, each of short bytes. -/
def smallPage (l : List Ent) : Bool := decide (l.length ≤ 20) && l.all fun e => decide (e.key.length ≤ 100) && decide (e.val.length ≤ 150)

set_option maxHeartbeats 1000000 in
theorem world_page {p : Page} {v : Value} {S : Nat → Prop} {w : World} (h : Sl kEnt S w v p.ents) :
    Calls Tryd.prog 6 #[.agg #[.int .i64 p.id, .int .i64 p.lsn, .int .i64 p.level, .int .i64 p.next, v]] w fun e w' => e = .returned (.bool (smallPage p.ents)) ∧ Fr All w w' := by
  obtain ⟨A, n, c, rfl, en, hn⟩ := h.open_
  have B := heap_alloc_new w (.cells #[.int .i64 p.id, .int .i64 p.lsn, .int .i64 p.level, .int .i64 p.next, .slice A n c] 30)
  have F0 := (Fr.refl All w).alloc (.cells #[.int .i64 p.id, .int .i64 p.lsn, .int .i64 p.level, .int .i64 p.next, .slice A n c] 30)
  by_cases h20 : 20 < n
  · have hg : decide ((n : Int) > 20) = true := decide_eq_true (by omega)
    have hsm : smallPage p.ents = false := by unfold smallPage; rw [decide_eq_false (by omega)]; rfl
    rw [hsm]
    go_enter Tryd.func6, Tryd.ntmps6
    go_wp2_with fail
    go_ret
    exact ⟨rfl, F0⟩
  · have hg : decide ((n : Int) > 20) = false := decide_eq_false (by omega)
    go_enter Tryd.func6, Tryd.ntmps6
    go_wp2_with fail
    generalize w.alloc (.cells #[.int .i64 p.id, .int .i64 p.lsn, .int .i64 p.level, .int .i64 p.next, .slice A n c] 30) = w0 at *
    go_loopw [3] (fun i wr => ∃ j : Nat, j ≤ n ∧ i = .int .i64 j ∧ Fr All w0 wr ∧ Hid (∀ i y, i < j → p.ents[i]? = some y → y.key.length ≤ 100 ∧ y.val.length ≤ 150)) (fun i _ => n - (intOf i).toNat)
    case atStart => exact ⟨0, Nat.zero_le _, rfl, Fr.refl _ _, (fun i y hi => absurd hi (Nat.not_lt_zero _) : ∀ i y, i < 0 → p.ents[i]? = some y → y.key.length ≤ 100 ∧ y.val.length ≤ 150)⟩
    case round =>
      obtain ⟨j, hj, rfl, HF, HB⟩ := hrel
      obtain ⟨p0, p1, p2, p3, p4, pz⟩ := blk5 ((HF.block w.heap.size (blk_lt B) trivial).trans B)
      by_cases hlt : j < n
      · obtain ⟨x, hx, xm⟩ := get_of (l := p.ents) (k := j) (by omega)
        have HS := (h.all F0).all HF
        obtain ⟨b, o, A0, n0, c0, A1, n1, c1, rfl, x0, x1, k0, k1⟩ := ent_at HS hx
        have Hx := Lib.hid hx
        have e0 := k0.len
        have e1 := k1.len
        have b0 : (0 : Int) ≤ (j : Int) := by omega
        have b1 : (j : Int) < (n : Int) := by omega
        have hw1 : IntKind.i64.wrap ((j : Int) + 1) = (j : Int) + 1 := IntWalk.i64_in _ (by omega)
        have hbad : ¬(x.key.length ≤ 100 ∧ x.val.length ≤ 150) → smallPage p.ents = false := fun hh => by
          unfold smallPage
          rw [Bool.and_eq_false_iff]
          right
          rw [List.all_eq_false]
          exact ⟨x, xm, by simpa using hh⟩
        have Hbad := Lib.hid hbad
        clear hx xm hbad
        by_cases hk : 100 < n0
        · have hd : decide ((n0 : Int) > 100) = true := decide_eq_true (by omega)
          go_wp2_with fail
          go_ret
          exact ⟨ret_bool (Hbad.out (by omega)).symm, F0.trans HF⟩
        · have hd : decide ((n0 : Int) > 100) = false := decide_eq_false (by omega)
          by_cases hv : 150 < n1
          · have hd' : decide ((n1 : Int) > 150) = true := decide_eq_true (by omega)
            go_wp2_with fail
            go_ret
            exact ⟨ret_bool (Hbad.out (by omega)).symm, F0.trans HF⟩
          · have hd' : decide ((n1 : Int) > 150) = false := decide_eq_false (by omega)
            go_wp2_with fail
            go_roundw
            case rel =>
              refine ⟨j + 1, by omega, by go_num, HF, (fun i y hi hy => ?_ : ∀ i y, i < j + 1 → p.ents[i]? = some y → y.key.length ≤ 100 ∧ y.val.length ≤ 150)⟩
              by_cases hij : i = j
              · subst hij
                have h1 := Hx.out
                rw [hy] at h1
                rw [Option.some.inj h1]
                omega
              · exact HB.out i y (by omega) hy
            case measure => simp [intOf]; omega
      · obtain rfl : j = n := by omega
        have hsm : smallPage p.ents = true := by
          unfold smallPage
          rw [Bool.and_eq_true, decide_eq_true_eq, List.all_eq_true]
          refine ⟨by omega, fun e he => ?_⟩
          obtain ⟨i, hi⟩ := List.mem_iff_getElem?.1 he
          have := HB.out i e (by have := (List.getElem?_eq_some_iff.1 hi).1; omega) hi
          simpa using this
        have Hsm := Lib.hid hsm
        clear hsm
        go_wp2_with fail
        go_ret
        exact ⟨ret_bool Hsm.out.symm, F0.trans HF⟩

theorem ref_in (n k : Int) (w : World) : Calls Tryd.prog 35 #[.int .i64 n, .int .i64 k] w fun e w' => e = .returned (.bool (inB n k)) ∧ w' = w := by
  unfold inB
  cases h1 : decide (0 ≤ n) with
  | true =>
    have h1' : decide (n ≥ 0) = true := h1
    go_enter Tryd.func35, Tryd.ntmps35
    go_wp2_with fail
    go_ret
    exact ⟨by simp, rfl⟩
  | false =>
    have h1' : decide (n ≥ 0) = false := h1
    go_enter Tryd.func35, Tryd.ntmps35
    go_wp2_with fail
    go_ret
    exact ⟨by simp, rfl⟩
theorem ref_page_in (n : Int) (w : World) : Calls Tryd.prog 18 #[.int .i64 n] w fun e w' => e = .returned (.bool (inB n 256)) ∧ w' = w := by
  go_enter Tryd.func18, Tryd.ntmps18
  go_wp2_with fail
  refine (ref_in n 256 w).mono ?_
  rintro e w' ⟨rfl, rfl⟩
  go_wp2_with fail
  go_ret
  exact ⟨rfl, rfl⟩
end Go.Proofs.YtppjpfgjophgkaaDoor
