/- The references' equalities: SameBytes, SameEntry, SameEntrys, SamePage say whether the data are the same. -/
import Derived.Test.YtppjpfgjophgkaaDoorD
import Derived.Test.YtppjpfgjophgkaaDoorProg
import Derived.KernelRfl
import Derived.Outline
import Derived.Deep.QuietTactic
import Derived.BigQuiet
import Derived.Deep.RegionHeld3
namespace Go.Proofs.YtppjpfgjophgkaaDoor
open Go.RowKit

/-- The element at a place of a slice of one-cell values. -/
theorem Sl.at1 {α : Type} {enc : α → Value} {h1 : ∀ x, (enc x).oneCell' = true} {S : Nat → Prop} {w : World} {A : Option Addr} {n c : Nat} {xs : List α} (h : Sl (Kd.plain enc h1) S w (.slice A n c) xs) {k : Nat} {x : α} (hi : xs[k]? = some x) :
    ∃ b o, A = some ⟨b, o, none⟩ ∧ w.cell? ⟨b, o + k, none⟩ = some (enc x) := by
  obtain ⟨A', c', he, _, _, hx⟩ := h
  injection he with ha _ _
  subst ha
  have hk : k < xs.length := (List.getElem?_eq_some_iff.1 hi).1
  obtain ⟨b, o, rfl, _, hr⟩ := hx (by omega)
  obtain ⟨cs, hc, hcell⟩ := hr k x hi
  refine ⟨b, o, rfl, ?_⟩
  have h2 := hcell 0 (enc x) (by rw [hc]; rfl)
  simpa [Kd.plain] using h2
theorem Sl.len_eq {α : Type} {d : Kd α} {S : Nat → Prop} {w : World} {A : Option Addr} {n c : Nat} {xs : List α} (h : Sl d S w (.slice A n c) xs) : n = xs.length := by
  obtain ⟨A', c', he, _⟩ := h
  injection he
/-- The entry at a place. -/
theorem ent_at {S : Nat → Prop} {w : World} {A : Option Addr} {n c : Nat} {xs : List Ent} (h : Sl kEnt S w (.slice A n c) xs) {k : Nat} {x : Ent} (hi : xs[k]? = some x) :
    ∃ b o A0 n0 c0 A1 n1 c1, A = some ⟨b, o, none⟩ ∧ w.cell? ⟨b, o + k * 2, none⟩ = some (.slice A0 n0 c0) ∧ w.cell? ⟨b, o + k * 2 + 1, none⟩ = some (.slice A1 n1 c1) ∧ Sl kByte S w (.slice A0 n0 c0) x.key ∧ Sl kByte S w (.slice A1 n1 c1) x.val := by
  obtain ⟨A', c', he, _, _, hx⟩ := h
  injection he with ha _ _
  subst ha
  have hk : k < xs.length := (List.getElem?_eq_some_iff.1 hi).1
  obtain ⟨b, o, rfl, _, hr⟩ := hx (by omega)
  obtain ⟨cs, hc, hcell⟩ := hr k x hi
  obtain ⟨v0, v1, rfl, h0, h1⟩ := kEnt_open hc
  obtain ⟨A0, n0, c0, rfl, _⟩ := h0.open_
  obtain ⟨A1, n1, c1, rfl, _⟩ := h1.open_
  exact ⟨b, o, A0, n0, c0, A1, n1, c1, rfl, hcell 0 _ rfl, hcell 1 _ rfl, h0, h1⟩
theorem u8_eq (a b : UInt8) : ((a.toNat : Int) == (b.toNat : Int)) = decide (a = b) := by
  rw [Bool.eq_iff_iff]
  simp only [beq_iff_eq, decide_eq_true_eq]
  exact ⟨fun h => UInt8.toNat_inj.1 (by omega), fun h => by rw [h]⟩

set_option maxHeartbeats 1000000 in
theorem same_bytes {v u : Value} {xs ys : List UInt8} {S T : Nat → Prop} {w : World} (h : Sl kByte S w v xs) (k : Sl kByte T w u ys) (hn : xs.length ≤ 100000000000000) :
    Calls Tryd.prog 63 #[v, u] w fun e w' => e = .returned (.bool (decide (xs = ys))) ∧ Fr All w w' := by
  obtain ⟨A, n, c, rfl, en, _⟩ := h.open_
  obtain ⟨B, m, d, rfl, em, _⟩ := k.open_
  rw [en] at hn
  by_cases hl : n = m
  · subst hl
    have Hn := Lib.hid en
    have Hm := Lib.hid em
    clear en em
    go_enter Tryd.func63, Tryd.ntmps63
    go_wp2_with fail
    go_loopw [5] (fun i wr => ∃ k : Nat, k ≤ n ∧ i = .int .i64 k ∧ Hid (xs.take k = ys.take k) ∧ Fr All w wr) (fun i _ => n - (intOf i).toNat)
    case atStart => exact ⟨0, Nat.zero_le _, rfl, (rfl : xs.take 0 = ys.take 0), Fr.refl _ _⟩
    case round =>
      obtain ⟨j, hj, rfl, HT, HF⟩ := hrel
      by_cases hlt : j < n
      · obtain ⟨x, hx, _⟩ := get_of (l := xs) (k := j) (by rw [Hn.out]; exact hlt)
        obtain ⟨y, hy, _⟩ := get_of (l := ys) (k := j) (by rw [Hm.out]; exact hlt)
        obtain ⟨b, o, rfl, c0⟩ := h.at1 hx
        obtain ⟨b', o', rfl, c1⟩ := k.at1 hy
        have c0' := HF.cell (p := ⟨b, o + j, none⟩) trivial c0
        have c1' := HF.cell (p := ⟨b', o' + j, none⟩) trivial c1
        have Hx := Lib.hid hx
        have Hy := Lib.hid hy
        have b0 : (0 : Int) ≤ (j : Int) := by omega
        have b1 : (j : Int) < (n : Int) := by omega
        clear hx hy c0 c1
        by_cases hxy : x = y
        · subst hxy
          go_wp2_with fail
          go_quiet (fail)
          go_wp2_with fail
          go_roundw
          case rel => exact ⟨j + 1, by omega, by go_num, (by rw [take_snoc Hx.out, take_snoc Hy.out, HT.out] : xs.take (j + 1) = ys.take (j + 1)), by first | exact HF.drewN _ | exact HF⟩
          case measure => simp [intOf]; omega
        · have hne := u8_eq x y
          rw [decide_eq_false hxy] at hne
          go_wp2_with fail
          go_quiet (fail)
          go_wp2_with fail
          go_ret
          have hF : decide (xs = ys) = false := decide_eq_false fun he => by
            have h1 := Hx.out
            rw [he, Hy.out] at h1
            exact hxy (Option.some.inj h1).symm
          exact ⟨ret_bool hF.symm, HF.drewN _⟩
      · obtain rfl : j = n := by omega
        go_wp2_with fail
        go_ret
        exact ⟨ret_bool (decide_eq_true (take_eq_of Hn.out Hm.out (Nat.le_refl _) HT.out)).symm, HF⟩
  · have he : ((n : Int) != (m : Int)) = true := by rw [bne_iff_ne]; omega
    go_enter Tryd.func63, Tryd.ntmps63
    go_wp2_with fail
    go_ret
    exact ⟨ret_bool (decide_eq_false (fun h => by rw [h] at en; omega)).symm, Fr.refl _ _⟩

set_option maxHeartbeats 1000000 in
theorem same_entry {v0 v1 u0 u1 : Value} {x y : Ent} {S T : Nat → Prop} {w : World} (h0 : Sl kByte S w v0 x.key) (h1 : Sl kByte S w v1 x.val) (k0 : Sl kByte T w u0 y.key) (k1 : Sl kByte T w u1 y.val) (hk : x.key.length ≤ 100000000000000) (hv : x.val.length ≤ 100000000000000) :
    Calls Tryd.prog 52 #[.agg #[v0, v1], .agg #[u0, u1]] w fun e w' => e = .returned (.bool (decide (x = y))) ∧ Fr All w w' := by
  obtain ⟨A0, n0, c0, rfl, _⟩ := h0.open_
  obtain ⟨A1, n1, c1, rfl, _⟩ := h1.open_
  obtain ⟨B0, m0, d0, rfl, _⟩ := k0.open_
  obtain ⟨B1, m1, d1, rfl, _⟩ := k1.open_
  have F0 := ((Fr.refl All w).alloc (.cells #[.slice A0 n0 c0, .slice A1 n1 c1] 65)).alloc (.cells #[.slice B0 m0 d0, .slice B1 m1 d1] 65)
  by_cases he : x.key = y.key
  · have hd := decide_eq_true he
    have He := Lib.hid he
    clear he
    go_enter Tryd.func52, Tryd.ntmps52
    go_wp2_with fail
    refine (same_bytes (h0.all F0) (k0.all F0) hk).mono ?_
    rintro e w1 ⟨rfl, f1⟩
    obtain ⟨hc, hz⟩ := f1.keep
    go_wp2_with fail
    refine (same_bytes ((h1.all F0).all f1) ((k1.all F0).all f1) hv).mono ?_
    rintro e w2 ⟨rfl, f2⟩
    go_wp2_with fail
    go_ret
    exact ⟨ret_bool (by obtain ⟨_, _⟩ := x; obtain ⟨_, _⟩ := y; have := He.out; simp_all), (F0.trans f1).trans f2⟩
  · have hd := decide_eq_false he
    have He := Lib.hid he
    clear he
    go_enter Tryd.func52, Tryd.ntmps52
    go_wp2_with fail
    refine (same_bytes (h0.all F0) (k0.all F0) hk).mono ?_
    rintro e w1 ⟨rfl, f1⟩
    obtain ⟨hc, hz⟩ := f1.keep
    go_wp2_with fail
    refine (same_bytes ((h1.all F0).all f1) ((k1.all F0).all f1) hv).mono ?_
    rintro e w2 ⟨rfl, f2⟩
    go_wp2_with fail
    go_ret
    exact ⟨ret_bool (by obtain ⟨_, _⟩ := x; obtain ⟨_, _⟩ := y; have := He.out; simp_all), (F0.trans f1).trans f2⟩

set_option maxHeartbeats 1000000 in
theorem same_entrys {v u : Value} {xs ys : List Ent} {S T : Nat → Prop} {w : World} (h : Sl kEnt S w v xs) (k : Sl kEnt T w u ys) (hn : xs.length ≤ 100000000000000) (hs : ∀ x ∈ xs, x.key.length ≤ 100000000000000 ∧ x.val.length ≤ 100000000000000) :
    Calls Tryd.prog 34 #[v, u] w fun e w' => e = .returned (.bool (decide (xs = ys))) ∧ Fr All w w' := by
  obtain ⟨A, n, c, rfl, en, _⟩ := h.open_
  obtain ⟨B, m, d, rfl, em, _⟩ := k.open_
  rw [en] at hn
  by_cases hl : n = m
  · subst hl
    have Hn := Lib.hid en
    have Hm := Lib.hid em
    clear en em
    go_enter Tryd.func34, Tryd.ntmps34
    go_wp2_with fail
    go_loopw [5] (fun i wr => ∃ k : Nat, k ≤ n ∧ i = .int .i64 k ∧ Hid (xs.take k = ys.take k) ∧ Fr All w wr) (fun i _ => n - (intOf i).toNat)
    case atStart => exact ⟨0, Nat.zero_le _, rfl, (rfl : xs.take 0 = ys.take 0), Fr.refl _ _⟩
    case round =>
      obtain ⟨j, hj, rfl, HT, HF⟩ := hrel
      by_cases hlt : j < n
      · obtain ⟨x, hx, xm⟩ := get_of (l := xs) (k := j) (by rw [Hn.out]; exact hlt)
        obtain ⟨y, hy, _⟩ := get_of (l := ys) (k := j) (by rw [Hm.out]; exact hlt)
        obtain ⟨b, o, A0, n0, c0, A1, n1, c1, rfl, x0, x1, k0, k1⟩ := ent_at (h.all HF) hx
        obtain ⟨b', o', B0, m0, d0, B1, m1, d1, rfl, y0, y1, l0, l1⟩ := ent_at (k.all HF) hy
        have Hx := Lib.hid hx
        have Hy := Lib.hid hy
        have b0 : (0 : Int) ≤ (j : Int) := by omega
        have b1 : (j : Int) < (n : Int) := by omega
        have hs1 := hs x xm
        clear hx hy xm
        by_cases hxy : x = y
        · have hd := decide_eq_true hxy
          have Hxy := Lib.hid hxy
          clear hxy
          go_wp2_with fail
          go_region_held3 (fun w' => w'.cell? ⟨b, o + j * 2, none⟩ = some (.slice A0 n0 c0) ∧ w'.cell? ⟨b, o + j * 2 + 1, none⟩ = some (.slice A1 n1 c1) ∧ w'.cell? ⟨b', o' + j * 2, none⟩ = some (.slice B0 m0 d0) ∧ w'.cell? ⟨b', o' + j * 2 + 1, none⟩ = some (.slice B1 m1 d1))
            (first | go_keep | (go_split_ands; refine ⟨?_, ?_, ?_, ?_⟩ <;> exact Fr.cell (by assumption) trivial (by assumption)))
            (first | (go_at_call 52; refine (same_entry (k0.all (Fr.refl All _).drew) (k1.all (Fr.refl All _).drew) (l0.all (Fr.refl All _).drew) (l1.all (Fr.refl All _).drew) hs1.1 hs1.2).mono ?_; rintro e w1 ⟨rfl, f1⟩))
          go_wp2_with fail
          go_roundw
          case rel => exact ⟨j + 1, by omega, by go_num, (by rw [take_snoc Hx.out, take_snoc Hy.out, HT.out, Hxy.out] : xs.take (j + 1) = ys.take (j + 1)), HF.drew.trans f1⟩
          case measure => simp [intOf]; omega
        · have hd := decide_eq_false hxy
          have Hxy := Lib.hid hxy
          clear hxy
          go_wp2_with fail
          go_region_held3 (fun w' => w'.cell? ⟨b, o + j * 2, none⟩ = some (.slice A0 n0 c0) ∧ w'.cell? ⟨b, o + j * 2 + 1, none⟩ = some (.slice A1 n1 c1) ∧ w'.cell? ⟨b', o' + j * 2, none⟩ = some (.slice B0 m0 d0) ∧ w'.cell? ⟨b', o' + j * 2 + 1, none⟩ = some (.slice B1 m1 d1))
            (first | go_keep | (go_split_ands; refine ⟨?_, ?_, ?_, ?_⟩ <;> exact Fr.cell (by assumption) trivial (by assumption)))
            (first | (go_at_call 52; refine (same_entry (k0.all (Fr.refl All _).drew) (k1.all (Fr.refl All _).drew) (l0.all (Fr.refl All _).drew) (l1.all (Fr.refl All _).drew) hs1.1 hs1.2).mono ?_; rintro e w1 ⟨rfl, f1⟩))
          go_wp2_with fail
          go_ret
          have hF : decide (xs = ys) = false := decide_eq_false fun he => by
            have h1 := Hx.out
            rw [he, Hy.out] at h1
            exact Hxy.out (Option.some.inj h1).symm
          exact ⟨ret_bool hF.symm, HF.drew.trans f1⟩
      · obtain rfl : j = n := by omega
        go_wp2_with fail
        go_ret
        exact ⟨ret_bool (decide_eq_true (take_eq_of Hn.out Hm.out (Nat.le_refl _) HT.out)).symm, HF⟩
  · have he : ((n : Int) != (m : Int)) = true := by rw [bne_iff_ne]; omega
    go_enter Tryd.func34, Tryd.ntmps34
    go_wp2_with fail
    go_ret
    exact ⟨ret_bool (decide_eq_false (fun h => by rw [h] at en; omega)).symm, Fr.refl _ _⟩

set_option maxHeartbeats 1000000 in
/-- Two pages of the same data. -/
theorem same_page {v u : Value} {p : Page} {S T : Nat → Prop} {w : World} (h : Sl kEnt S w v p.ents) (k : Sl kEnt T w u p.ents) (hn : p.ents.length ≤ 100000000000000) (hs : ∀ x ∈ p.ents, x.key.length ≤ 100000000000000 ∧ x.val.length ≤ 100000000000000) :
    Calls Tryd.prog 17 #[.agg #[.int .i64 p.id, .int .i64 p.lsn, .int .i64 p.level, .int .i64 p.next, v], .agg #[.int .i64 p.id, .int .i64 p.lsn, .int .i64 p.level, .int .i64 p.next, u]] w fun e w' => e = .returned (.bool true) ∧ Fr All w w' := by
  obtain ⟨A, n, c, rfl, _⟩ := h.open_
  obtain ⟨B, m, d, rfl, _⟩ := k.open_
  have hd : decide (p.ents = p.ents) = true := decide_eq_true rfl
  have F0 := ((Fr.refl All w).alloc (.cells #[.int .i64 p.id, .int .i64 p.lsn, .int .i64 p.level, .int .i64 p.next, .slice A n c] 30)).alloc (.cells #[.int .i64 p.id, .int .i64 p.lsn, .int .i64 p.level, .int .i64 p.next, .slice B m d] 30)
  go_enter Tryd.func17, Tryd.ntmps17
  go_wp2_with fail
  refine (same_entrys (h.all F0) (k.all F0) hn hs).mono ?_
  rintro e w1 ⟨rfl, f1⟩
  obtain ⟨hc, hz⟩ := f1.keep
  go_wp2_with fail
  go_ret
  exact ⟨rfl, F0.trans f1⟩
end Go.Proofs.YtppjpfgjophgkaaDoor
