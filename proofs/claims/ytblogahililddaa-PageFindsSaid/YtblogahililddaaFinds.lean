/- The reference's Find. -/
import Derived.Test.YtblogahililddaaAhead
namespace Go.Proofs.Ytblogahililddaa
open Go.RowKit

theorem cmp_zero : ∀ (xs ys : List UInt8), (Lib.compareBytes xs ys == 0) = decide (xs = ys)
  | [], [] => rfl
  | [], _ :: _ => by simp [Lib.compareBytes]
  | _ :: _, [] => by simp [Lib.compareBytes]
  | x :: xs, y :: ys => by
    have ih := cmp_zero xs ys
    unfold Lib.compareBytes
    by_cases hxy : x = y
    · subst hxy
      rw [if_neg (UInt8.lt_irrefl x), if_neg (UInt8.lt_irrefl x), ih]
      simp
    · have hne : decide (x :: xs = y :: ys) = false := decide_eq_false (fun h => hxy (List.cons.inj h).1)
      rw [hne]
      by_cases hl : x < y
      · rw [if_pos hl]; rfl
      · rw [if_neg hl, if_pos (UInt8.lt_of_le_of_ne (UInt8.not_lt.1 hl) (Ne.symm hxy))]; rfl

set_option maxHeartbeats 1000000 in
theorem ref_find {p : Page} {v kv : Value} {key : List UInt8} {S T : Nat → Prop} {w : World} (h : Sl kEnt S w v p.ents) (hk : Sl kByte T w kv key) (hs : ∀ x ∈ p.ents, x.key.length ≤ 100000000000000) :
    Calls Try.prog 21 #[.agg #[.int .i64 p.id, .int .i64 p.lsn, .int .i64 p.level, .int .i64 p.next, v], kv] w fun e w' => e = .returned (.tuple #[.int .i64 (findIx key p.ents : Nat), .bool (findIs key p.ents)]) ∧ Fr All w w' := by
  obtain ⟨A, n, c, rfl, en, hn⟩ := h.open_
  obtain ⟨K, m, d, rfl, _⟩ := hk.open_
  go_enter Try.func21, Try.ntmps21
  have B := heap_alloc_new w (.cells #[.int .i64 p.id, .int .i64 p.lsn, .int .i64 p.level, .int .i64 p.next, .slice A n c] 26)
  have F0 := (Fr.refl All w).alloc (.cells #[.int .i64 p.id, .int .i64 p.lsn, .int .i64 p.level, .int .i64 p.next, .slice A n c] 26)
  have hml : maxLen = 9223372036854775807 := rfl
  go_wp2_with fail
  generalize w.alloc (.cells #[.int .i64 p.id, .int .i64 p.lsn, .int .i64 p.level, .int .i64 p.next, .slice A n c] 26) = w0 at *
  go_loopw [6] (fun i wr => ∃ j : Nat, j ≤ n ∧ i = .int .i64 j ∧ Fr All w0 wr ∧ Hid (∀ i y, i < j → p.ents[i]? = some y → Lib.compareBytes y.key key < 0)) (fun i _ => n - (intOf i).toNat)
  case atStart => exact ⟨0, Nat.zero_le _, rfl, Fr.refl _ _, (fun i y hi => absurd hi (Nat.not_lt_zero _) : ∀ i y, i < 0 → p.ents[i]? = some y → Lib.compareBytes y.key key < 0)⟩
  case round =>
    obtain ⟨j, hj, rfl, HF, HB⟩ := hrel
    obtain ⟨p0, p1, p2, p3, p4, pz⟩ := blk5 ((HF.block w.heap.size (blk_lt B) trivial).trans B)
    by_cases hlt : j < n
    · obtain ⟨x, hx, xm⟩ := get_of (l := p.ents) (k := j) (by omega)
      have HS := (h.all F0).all HF
      have HK := (hk.all F0).all HF
      obtain ⟨b, o, A0, n0, c0, A1, n1, c1, rfl, x0, x1, k0, k1⟩ := ent_at HS hx
      have Hx := Lib.hid hx
      have hsx := hs x xm
      have b0 : (0 : Int) ≤ (j : Int) := by omega
      have b1 : (j : Int) < (n : Int) := by omega
      have hw1 : IntKind.i64.wrap ((j : Int) + 1) = (j : Int) + 1 := IntWalk.i64_in _ (by omega)
      clear hx xm
      go_wp2_with fail
      refine (ahead k0 HK hsx).mono ?_
      rintro e w1 ⟨rfl, f1⟩
      have y0 := f1.cell trivial x0
      have y4 := f1.cell trivial p4
      by_cases hc : 0 ≤ Lib.compareBytes x.key key
      · have hc' : decide (Lib.compareBytes x.key key < 0) = false := decide_eq_false (by omega)
        have hix := findIx_at Hx.out HB.out hc
        have his : findIs key p.ents = decide (x.key = key) := by unfold findIs; rw [hix, Hx.out, ← cmp_zero]
        have Hix := Lib.hid hix
        have His := Lib.hid his
        clear hix his
        go_wp2_with fail
        refine (same_bytes (k0.all f1) (HK.all f1) hsx).mono ?_
        rintro e w2 ⟨rfl, f2⟩
        go_wp2_with fail
        go_ret2
        exact ⟨by rw [Hix.out, His.out]; rfl, ((F0.trans HF).trans f1).trans f2⟩
      · have hc' : decide (Lib.compareBytes x.key key < 0) = true := decide_eq_true (by omega)
        go_wp2_with fail
        go_roundw
        case rel => 
          refine ⟨j + 1, by omega, by go_num, HF.trans f1, (fun i y hi hy => ?_ : ∀ i y, i < j + 1 → p.ents[i]? = some y → Lib.compareBytes y.key key < 0)⟩
          by_cases hij : i = j
          · subst hij
            have h1 := Hx.out
            rw [hy] at h1
            rw [Option.some.inj h1]
            omega
          · exact HB.out i y (by omega) hy
        case measure => simp [intOf]; omega
    · obtain rfl : j = n := by omega
      have hix := findIx_end (key := key) (xs := p.ents) (fun i y hi hy => HB.out i y (by omega) hy)
      have his : findIs key p.ents = false := by unfold findIs; rw [hix, List.getElem?_eq_none (Nat.le_refl _)]
      rw [en] at hix
      have Hix := Lib.hid hix
      have His := Lib.hid his
      clear hix his
      go_wp2_with fail
      go_ret2
      exact ⟨by rw [Hix.out, His.out]; rfl, F0.trans HF⟩

/-- Whether a page has few entries, each of short bytes. -/
def smallPage (l : List Ent) : Bool := decide (l.length ≤ 20) && l.all fun e => decide (e.key.length ≤ 100) && decide (e.val.length ≤ 150)

set_option maxHeartbeats 1000000 in
theorem world_page {p : Page} {v : Value} {S : Nat → Prop} {w : World} (h : Sl kEnt S w v p.ents) :
    Calls Try.prog 19 #[.agg #[.int .i64 p.id, .int .i64 p.lsn, .int .i64 p.level, .int .i64 p.next, v]] w fun e w' => e = .returned (.bool (smallPage p.ents)) ∧ Fr All w w' := by
  obtain ⟨A, n, c, rfl, en, hn⟩ := h.open_
  have B := heap_alloc_new w (.cells #[.int .i64 p.id, .int .i64 p.lsn, .int .i64 p.level, .int .i64 p.next, .slice A n c] 26)
  have F0 := (Fr.refl All w).alloc (.cells #[.int .i64 p.id, .int .i64 p.lsn, .int .i64 p.level, .int .i64 p.next, .slice A n c] 26)
  by_cases h20 : 20 < n
  · have hg : decide ((n : Int) > 20) = true := decide_eq_true (by omega)
    have hsm : smallPage p.ents = false := by unfold smallPage; rw [decide_eq_false (by omega)]; rfl
    rw [hsm]
    go_enter Try.func19, Try.ntmps19
    go_wp2_with fail
    go_ret
    exact ⟨rfl, F0⟩
  · have hg : decide ((n : Int) > 20) = false := decide_eq_false (by omega)
    go_enter Try.func19, Try.ntmps19
    go_wp2_with fail
    generalize w.alloc (.cells #[.int .i64 p.id, .int .i64 p.lsn, .int .i64 p.level, .int .i64 p.next, .slice A n c] 26) = w0 at *
    go_loopw [3] (fun i wr => ∃ j : Nat, j ≤ n ∧ i = .int .i64 j ∧ Fr All w0 wr ∧ Hid (∀ i y, i < j → p.ents[i]? = some y → y.key.length ≤ 100 ∧ y.val.length ≤ 150)) (fun i _ => n - (intOf i).toNat)
    case atStart => exact ⟨0, Nat.zero_le _, rfl, Fr.refl _ _, (fun i y hi => absurd hi (Nat.not_lt_zero _) : ∀ i y, i < 0 → p.ents[i]? = some y → y.key.length ≤ 100 ∧ y.val.length ≤ 150)⟩
    case round =>
      obtain ⟨j, hj, rfl, HF, HB⟩ := hrel
      obtain ⟨p0, p1, p2, p3, p4, pz⟩ := blk5 ((HF.block w.heap.size (blk_lt B) trivial).trans B)
      by_cases hlt : j < n
      · obtain ⟨x, hx, xm⟩ := get_of (l := p.ents) (k := j) (by omega)
        have HS := (h.all F0).all HF
        obtain ⟨b, o, A0, n0, c0, A1, n1, c1, rfl, x0, x1, k0, k1⟩ := ent_at HS hx
        have Hx := Lib.hid hx
        have e0 := k0.len
        have e1 := k1.len
        have b0 : (0 : Int) ≤ (j : Int) := by omega
        have b1 : (j : Int) < (n : Int) := by omega
        have hw1 : IntKind.i64.wrap ((j : Int) + 1) = (j : Int) + 1 := IntWalk.i64_in _ (by omega)
        have hbad : ¬(x.key.length ≤ 100 ∧ x.val.length ≤ 150) → smallPage p.ents = false := fun hh => by
          unfold smallPage
          rw [Bool.and_eq_false_iff]
          right
          rw [List.all_eq_false]
          exact ⟨x, xm, by simpa using hh⟩
        have Hbad := Lib.hid hbad
        clear hx xm hbad
        by_cases hk : 100 < n0
        · have hd : decide ((n0 : Int) > 100) = true := decide_eq_true (by omega)
          go_wp2_with fail
          go_ret
          exact ⟨ret_bool (Hbad.out (by omega)).symm, F0.trans HF⟩
        · have hd : decide ((n0 : Int) > 100) = false := decide_eq_false (by omega)
          by_cases hv : 150 < n1
          · have hd' : decide ((n1 : Int) > 150) = true := decide_eq_true (by omega)
            go_wp2_with fail
            go_ret
            exact ⟨ret_bool (Hbad.out (by omega)).symm, F0.trans HF⟩
          · have hd' : decide ((n1 : Int) > 150) = false := decide_eq_false (by omega)
            go_wp2_with fail
            go_roundw
            case rel =>
              refine ⟨j + 1, by omega, by go_num, HF, (fun i y hi hy => ?_ : ∀ i y, i < j + 1 → p.ents[i]? = some y → y.key.length ≤ 100 ∧ y.val.length ≤ 150)⟩
              by_cases hij : i = j
              · subst hij
                have h1 := Hx.out
                rw [hy] at h1
                rw [Option.some.inj h1]
                omega
              · exact HB.out i y (by omega) hy
            case measure => simp [intOf]; omega
      · obtain rfl : j = n := by omega
        have hsm : smallPage p.ents = true := by
          unfold smallPage
          rw [Bool.and_eq_true, decide_eq_true_eq, List.all_eq_true]
          refine ⟨by omega, fun e he => ?_⟩
          obtain ⟨i, hi⟩ := List.mem_iff_getElem?.1 he
          have := HB.out i e (by have := (List.getElem?_eq_some_iff.1 hi).1; omega) hi
          simpa using this
        have Hsm := Lib.hid hsm
        clear hsm
        go_wp2_with fail
        go_ret
        exact ⟨ret_bool Hsm.out.symm, F0.trans HF⟩
end Go.Proofs.Ytblogahililddaa
