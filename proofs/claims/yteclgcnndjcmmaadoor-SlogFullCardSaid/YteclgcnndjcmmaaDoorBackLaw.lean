/- Reading what was written, as plain Lean. -/
import Derived.Test.YteclgcnndjcmmaaDoorReader3
import Derived.Test.YteclgcnndjcmmaaDoorNumber
import Derived.Test.YteclgcnndjcmmaaDoorRBytes
namespace Go.Proofs.YteclgcnndjcmmaaDoor
open Go.RowKit

/-- The bytes from a to b. -/
def Part (bs : List UInt8) (a b : Nat) (y : List UInt8) : Prop := a ≤ b ∧ (a ≤ bs.length → b ≤ bs.length) ∧ (bs.drop a).take (b - a) = y
theorem Part.trans {bs y z : List UInt8} {a b c : Nat} (h : Part bs a b y) (k : Part bs b c z) : Part bs a c (y ++ z) := by
  obtain ⟨h1, h2, rfl⟩ := h
  obtain ⟨k1, k2, rfl⟩ := k
  refine ⟨Nat.le_trans h1 k1, fun h => k2 (h2 h), ?_⟩
  rw [show c - a = (b - a) + (c - b) by omega, List.take_add, List.drop_drop, show a + (b - a) = b by omega]
theorem stNum_part {low high v : Int} {bs : List UInt8} {s s' : Nat × Option (Nat × Nat)} (h : stNum low high bs s = (v, s')) (h0 : s'.2 = none) : s.2 = none ∧ low ≤ v ∧ v ≤ high ∧ Part bs s.1 s'.1 (vint (zig v)) := by
  have := stNum_none (low := low) (high := high) (bs := bs) (s := s)
  rw [h] at this
  obtain ⟨h1, h2, h3, h4, h5, h6⟩ := this h0
  exact ⟨h1, h2, h3, h4, h5, h6⟩
theorem stBytes_part {most : Int} {bs zs : List UInt8} {s s' : Nat × Option (Nat × Nat)} (h : stBytes most bs s = (zs, s')) (h0 : s'.2 = none) : s.2 = none ∧ (zs.length : Int) ≤ most ∧ Part bs s.1 s'.1 (bytesOf zs) := by
  rcases hn : stNum 0 most bs s with ⟨v, q, e⟩
  unfold stBytes at h
  rw [hn] at h
  cases e with
  | some x =>
    simp only [Prod.mk.injEq] at h
    obtain ⟨_, rfl⟩ := h
    cases h0
  | none =>
    obtain ⟨h1, h2, h3, h4⟩ := stNum_part hn rfl
    simp only at h
    split at h
    · obtain ⟨_, rfl⟩ := Prod.mk.inj h
      cases h0
    · rename_i hlt
      obtain ⟨rfl, rfl⟩ := Prod.mk.inj h
      obtain ⟨m, rfl⟩ := Int.eq_ofNat_of_zero_le h2
      rw [Int.toNat_natCast]
      have hl : ((bs.drop q).take m).length = m := by
        rw [List.length_take, List.length_drop]
        omega
      refine ⟨h1, by rw [hl]; exact h3, ?_⟩
      unfold bytesOf
      rw [hl]
      exact h4.trans ⟨by dsimp only; omega, fun _ => by dsimp only at *; omega, by rw [show q + m - q = m by omega]⟩

theorem fromTo_none {bs : List UInt8} {s : Nat × Option (Nat × Nat)} {x : Redo} {p : Nat} (h : FromTo bs s x (p, none)) : s.2 = none ∧ Part bs s.1 p (redoBytes x) ∧ x.key.length ≤ 32 ∧ x.val.length ≤ 64 := by
  obtain ⟨s1, s2, s3, s4, s5, s6, s7, s8, s9, v8, n1, n2, n3, n4, n5, n6, n7, n8, hl, b1, b2⟩ := h
  obtain ⟨e9, y2, d2⟩ := stBytes_part b2 rfl
  obtain ⟨e8, y1, d1⟩ := stBytes_part b1 e9
  obtain ⟨e7, l8, g8, c8⟩ := stNum_part n8 e8
  obtain ⟨e6, _, _, c7⟩ := stNum_part n7 e7
  obtain ⟨e5, _, _, c6⟩ := stNum_part n6 e6
  obtain ⟨e4, _, _, c5⟩ := stNum_part n5 e5
  obtain ⟨e3, _, _, c4⟩ := stNum_part n4 e4
  obtain ⟨e2, _, _, c3⟩ := stNum_part n3 e3
  obtain ⟨e1, _, _, c2⟩ := stNum_part n2 e2
  obtain ⟨e0, _, _, c1⟩ := stNum_part n1 e1
  refine ⟨e0, ?_, by omega, by omega⟩
  have hv : v8 = if x.last then 1 else 0 := by
    rw [hl]
    by_cases h : v8 = 1
    · simp [h]
    · simp [h]
      omega
  have := ((((((((c1.trans c2).trans c3).trans c4).trans c5).trans c6).trans c7).trans c8).trans d1).trans d2
  rw [hv] at this
  simpa [redoBytes, vints, redoNums] using this

theorem stNum_good {low high n : Int} {bs rest : List UInt8} {p : Nat} (h0 : low ≤ n) (h1 : n ≤ high) (hz : zig n < 18446744073709551616) (hb : bs.drop p = vint (zig n) ++ rest) : stNum low high bs (p, none) = (n, p + (vint (zig n)).length, none) ∧ bs.drop (p + (vint (zig n)).length) = rest := by
  constructor
  · unfold stNum
    simp only
    rw [hb, numGo_vint _ _ 0 0 (by omega) (by omega)]
    simp only [Nat.zero_add, Nat.pow_zero, Nat.mul_one]
    rw [zag_zig, if_neg (by omega)]
  · rw [← List.drop_drop, hb, List.drop_left]
theorem stBytes_good {most : Int} {bs b rest : List UInt8} {p : Nat} (h1 : (b.length : Int) ≤ most) (h2 : b.length ≤ 1000000) (hb : bs.drop p = bytesOf b ++ rest) : stBytes most bs (p, none) = (b, p + (bytesOf b).length, none) ∧ bs.drop (p + (bytesOf b).length) = rest := by
  constructor
  · unfold bytesOf at hb
    rw [List.append_assoc] at hb
    obtain ⟨h3, h4⟩ := stNum_good (low := 0) (high := most) (n := b.length) (by omega) h1 (by simp only [zig]; split <;> omega) hb
    unfold stBytes
    rw [h3]
    simp only
    have hl := congrArg List.length h4
    rw [List.length_drop, List.length_append] at hl
    rw [if_neg (by omega), h4, Int.toNat_natCast, List.take_left]
    simp only [bytesOf, List.length_append, Nat.add_assoc]
  · rw [← List.drop_drop, hb, List.drop_left]

theorem zig_small {n : Int} (h0 : 0 ≤ n) (h : n < 4611686018427387904) : zig n < 18446744073709551616 := by
  simp only [zig]
  split <;> omega

/-- A record's bytes are read as it. -/
theorem fromTo_good {r x : Redo} {rest : List UInt8} {s : Nat × Option (Nat × Nat)} (ok : validIx r = none) (h : FromTo (redoBytes r ++ rest) (0, none) x s) : x = r ∧ s = ((redoBytes r).length, none) := by
  have hv := validIx_none ok
  obtain ⟨bs, hbs⟩ : ∃ bs, redoBytes r ++ rest = bs := ⟨_, rfl⟩
  rw [hbs] at h
  obtain ⟨s1, s2, s3, s4, s5, s6, s7, s8, s9, v8, n1, n2, n3, n4, n5, n6, n7, n8, hl, b1, b2⟩ := h
  have hb : bs.drop 0 = vint (zig r.lsn) ++ (vint (zig r.back) ++ (vint (zig r.epoch) ++ (vint (zig r.group) ++ (vint (zig r.page) ++ (vint (zig r.kind) ++ (vint (zig r.slot) ++ (vint (zig (if r.last then 1 else 0)) ++ (bytesOf r.key ++ (bytesOf r.val ++ rest))))))))) := by
    rw [List.drop_zero, ← hbs]
    simp [redoBytes, vints, redoNums]
  obtain ⟨m1, hb⟩ := stNum_good (low := 1) (high := 1099511627776) (by omega) (by omega) (zig_small (by omega) (by omega)) hb
  rw [m1] at n1
  obtain ⟨e1, rfl⟩ := Prod.mk.inj n1
  obtain ⟨m2, hb⟩ := stNum_good (low := 0) (high := 1099511627776) (by omega) (by omega) (zig_small (by omega) (by omega)) hb
  rw [m2] at n2
  obtain ⟨e2, rfl⟩ := Prod.mk.inj n2
  obtain ⟨m3, hb⟩ := stNum_good (low := 0) (high := 1073741824) (by omega) (by omega) (zig_small (by omega) (by omega)) hb
  rw [m3] at n3
  obtain ⟨e3, rfl⟩ := Prod.mk.inj n3
  obtain ⟨m4, hb⟩ := stNum_good (low := 0) (high := 3) (by omega) (by omega) (zig_small (by omega) (by omega)) hb
  rw [m4] at n4
  obtain ⟨e4, rfl⟩ := Prod.mk.inj n4
  obtain ⟨m5, hb⟩ := stNum_good (low := 0) (high := 255) (by omega) (by omega) (zig_small (by omega) (by omega)) hb
  rw [m5] at n5
  obtain ⟨e5, rfl⟩ := Prod.mk.inj n5
  obtain ⟨m6, hb⟩ := stNum_good (low := 1) (high := 6) (by omega) (by omega) (zig_small (by omega) (by omega)) hb
  rw [m6] at n6
  obtain ⟨e6, rfl⟩ := Prod.mk.inj n6
  obtain ⟨m7, hb⟩ := stNum_good (low := 0) (high := 32768) (by omega) (by omega) (zig_small (by omega) (by omega)) hb
  rw [m7] at n7
  obtain ⟨e7, rfl⟩ := Prod.mk.inj n7
  obtain ⟨m8, hb⟩ := stNum_good (low := 0) (high := 1) (by split <;> omega) (by split <;> omega) (zig_small (by split <;> omega) (by split <;> omega)) hb
  rw [m8] at n8
  obtain ⟨e8, rfl⟩ := Prod.mk.inj n8
  obtain ⟨m9, hb⟩ := stBytes_good (most := 32) (by omega) (by omega) hb
  rw [m9] at b1
  obtain ⟨e9, rfl⟩ := Prod.mk.inj b1
  obtain ⟨m10, hb⟩ := stBytes_good (most := 64) (by omega) (by omega) hb
  rw [m10] at b2
  obtain ⟨e10, rfl⟩ := Prod.mk.inj b2
  refine ⟨?_, ?_⟩
  · obtain ⟨lsn, back, epoch, group, page, kind, slot, key, val, last⟩ := r
    obtain ⟨lsn', back', epoch', group', page', kind', slot', key', val', last'⟩ := x
    dsimp only at *
    subst e1 e2 e3 e4 e5 e6 e7 e9 e10 e8
    rw [hl]
    congr 1
    cases last <;> rfl
  · simp only [redoBytes, vints, redoNums, List.flatMap_cons, List.flatMap_nil, List.length_append, List.append_nil, Prod.mk.injEq, and_true]
    omega

/-- Cut off they are none. -/
theorem fromTo_cut {r x : Redo} {k p : Nat} (hk : k < (redoBytes r).length) (h : FromTo ((redoBytes r).take k) (0, none) x (p, none)) : False := by
  obtain ⟨_, ⟨_, h2, h3⟩, _⟩ := fromTo_none h
  rw [List.drop_zero, Nat.sub_zero] at h3
  have hp := h2 (Nat.zero_le _)
  rw [List.length_take] at hp
  have e : redoBytes x ++ (redoBytes r).drop p = redoBytes r ++ [] := by
    rw [← h3, List.take_take, Nat.min_eq_left (by omega), List.take_append_drop, List.append_nil]
  obtain ⟨_, h5⟩ := redoBytes_inj e
  have := congrArg List.length h5
  rw [List.length_drop] at this
  simp at this
  omega

/-- One byte turned: another record. -/
theorem fromTo_spoilt {r x : Redo} {bs : List UInt8} {k p : Nat} {b : UInt8} (hk : k < (redoBytes r).length) (hb : (redoBytes r)[k]? ≠ some b) (hs : bs = (redoBytes r).set k b) (h : FromTo bs (0, none) x (p, none)) : x ≠ r ∧ bs.take p = redoBytes x ∧ p ≤ bs.length := by
  obtain ⟨_, ⟨_, h2, h3⟩, _⟩ := fromTo_none h
  rw [List.drop_zero, Nat.sub_zero] at h3
  have hp := h2 (Nat.zero_le _)
  refine ⟨?_, h3, hp⟩
  rintro rfl
  have hl : bs.length = (redoBytes x).length := by rw [hs, List.length_set]
  have h4 := congrArg List.length h3
  rw [List.length_take] at h4
  rw [List.take_of_length_le (by omega)] at h3
  apply hb
  rw [← h3, hs, List.getElem?_set_self hk]
end Go.Proofs.YteclgcnndjcmmaaDoor
