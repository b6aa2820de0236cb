/- The walk of the law on finds. -/
import Derived.Test.YtblogahililddaaFinds
namespace Go.Proofs.Ytblogahililddaa
open Go.RowKit

set_option maxHeartbeats 2000000 in
theorem finds_walk {p : Page} {v kv : Value} {key : List UInt8} {S T : Nat → Prop} (w : World) (h : Sl kEnt S w v p.ents) (hk : Sl kByte T w kv key) :
    Calls Try.prog 7 #[.agg #[.int .i64 p.id, .int .i64 p.lsn, .int .i64 p.level, .int .i64 p.next, v], kv] w fun e w' => e = .returned (.bool true) ∧ Fr All w w' := by
  obtain ⟨A, n, c, rfl, en, hn⟩ := h.open_
  obtain ⟨K, m, d, rfl, em, _⟩ := hk.open_
  have B := heap_alloc_new w (.cells #[.int .i64 p.id, .int .i64 p.lsn, .int .i64 p.level, .int .i64 p.next, .slice A n c] 26)
  have F0 := (Fr.refl All w).alloc (.cells #[.int .i64 p.id, .int .i64 p.lsn, .int .i64 p.level, .int .i64 p.next, .slice A n c] 26)
  go_enter Try.func7, Try.ntmps7
  go_wp2_with fail
  refine (first_call _).mono ?_
  rintro e w1 ⟨rfl, f1⟩
  obtain ⟨p0, p1, p2, p3, p4, pz⟩ := blk5 ((f1.block w.heap.size (blk_lt B) trivial).trans B)
  go_wp2_with fail
  refine (world_page ((h.all F0).all f1)).mono ?_
  rintro e w2 ⟨rfl, f2⟩
  obtain ⟨b, hb⟩ : ∃ b, smallPage p.ents = b := ⟨_, rfl⟩
  have hs : b = true → ∀ x ∈ p.ents, x.key.length ≤ 100000000000000 := fun hbt x hx => by
    rw [hbt] at hb
    unfold smallPage at hb
    rw [Bool.and_eq_true, List.all_eq_true] at hb
    have := hb.2 x hx
    simp only [Bool.and_eq_true, decide_eq_true_eq] at this
    omega
  rw [hb]
  have Hs := Lib.hid hs
  clear hs hb
  obtain ⟨q0, q1, q2, q3, q4, qz⟩ := blk5 ((f2.block w.heap.size (Nat.lt_of_lt_of_le (blk_lt B) f1.size) trivial).trans ((f1.block w.heap.size (blk_lt B) trivial).trans B))
  have F2 := (F0.trans f1).trans f2
  clear p0 p1 p2 p3 p4 pz
  cases b with
  | false =>
    go_wp2_with fail
    go_ret
    exact ⟨rfl, F2⟩
  | true =>
    by_cases hl : 100 < m
    · have hd : decide ((m : Int) > 100) = true := decide_eq_true (by omega)
      go_wp2_with fail
      go_ret
      exact ⟨rfl, F2⟩
    · have hd : decide ((m : Int) > 100) = false := decide_eq_false (by omega)
      go_wp2_with fail
      refine (page_find (h.all F2) (hk.all F2)).mono ?_
      rintro e w3 ⟨rfl, f3⟩
      have r0 := f3.cell trivial q0
      have r1 := f3.cell trivial q1
      have r2 := f3.cell trivial q2
      have r3 := f3.cell trivial q3
      have r4 := f3.cell trivial q4
      generalize hF : findIs key p.ents = g
      go_wp2_with fail
      refine (ref_find (h.all (F2.trans f3)) (hk.all (F2.trans f3)) (Hs.out trivial)).mono ?_
      rintro e w4 ⟨rfl, f4⟩
      rw [hF]
      clear hF
      go_wp2_with fail
      go_ret
      exact ⟨ret_bool (by simp), (F2.trans f3).trans f4⟩
end Go.Proofs.Ytblogahililddaa
