/- No record's bytes begin another's. Numbers read from bytes, as plain Lean: what is read is what was put. (*wire.Reader).number. -/
import Derived.Test.YteclgcnndjcmmaaDoorRBytes
import Derived.Test.YteclgcnndjcmmaaDoorE
import Derived.Deep.QuietTactic
import Derived.BigQuiet
import Derived.Laws.BitsLemmas
import Derived.Laws.Bits64
import Derived.Laws.BitsAllLaws
namespace Go.Proofs.YteclgcnndjcmmaaDoor
open Go.RowKit

theorem u8_ofNat_inj {a b : Nat} (ha : a < 256) (hb : b < 256) (h : UInt8.ofNat a = UInt8.ofNat b) : a = b := by
  have h1 := congrArg UInt8.toNat h
  rwa [UInt8.toNat_ofNat_of_lt' (by simpa only [UInt8.size] using ha), UInt8.toNat_ofNat_of_lt' (by simpa only [UInt8.size] using hb)] at h1

theorem vint_inj : ∀ (x y : Nat) (p q : List UInt8), vint x ++ p = vint y ++ q → x = y ∧ p = q := fun x => by
  induction x using Nat.strongRecOn with
  | _ x ih =>
    intro y p q h
    by_cases hx : x < 128
    · rw [vint_small hx] at h
      by_cases hy : y < 128
      · rw [vint_small hy] at h
        simp only [List.cons_append, List.nil_append, List.cons.injEq] at h
        exact ⟨u8_ofNat_inj (by omega) (by omega) h.1, h.2⟩
      · rw [vint_great hy] at h
        simp only [List.cons_append, List.nil_append, List.cons.injEq] at h
        have := u8_ofNat_inj (by omega) (by omega) h.1
        omega
    · rw [vint_great hx] at h
      by_cases hy : y < 128
      · rw [vint_small hy] at h
        simp only [List.cons_append, List.nil_append, List.cons.injEq] at h
        have := u8_ofNat_inj (by omega) (by omega) h.1
        omega
      · rw [vint_great hy] at h
        simp only [List.cons_append, List.cons.injEq] at h
        have h1 := u8_ofNat_inj (by omega) (by omega) h.1
        obtain ⟨h2, h3⟩ := ih (x / 128) (by omega) (y / 128) p q h.2
        exact ⟨by omega, h3⟩

theorem zig_inj {m n : Int} (h : zig m = zig n) : m = n := by
  unfold zig at h
  split at h <;> split at h <;> omega

theorem vints_inj : ∀ (l m : List Int) (p q : List UInt8), l.length = m.length → vints l ++ p = vints m ++ q → l = m ∧ p = q
  | [], [], p, q, _, h => ⟨rfl, h⟩
  | [], _ :: _, _, _, h, _ => by simp at h
  | _ :: _, [], _, _, h, _ => by simp at h
  | a :: l, b :: m, p, q, hl, h => by
    simp only [vints, List.flatMap_cons, List.append_assoc] at h
    obtain ⟨h1, h2⟩ := vint_inj _ _ _ _ h
    obtain ⟨h3, h4⟩ := vints_inj l m p q (by simpa using hl) h2
    exact ⟨by rw [zig_inj h1, h3], h4⟩

theorem bytesOf_inj {a b p q : List UInt8} (h : bytesOf a ++ p = bytesOf b ++ q) : a = b ∧ p = q := by
  simp only [bytesOf, List.append_assoc] at h
  obtain ⟨h1, h2⟩ := vint_inj _ _ _ _ h
  have h3 := zig_inj h1
  exact List.append_inj h2 (by omega)

theorem redoBytes_inj {r s : Redo} {p q : List UInt8} (h : redoBytes r ++ p = redoBytes s ++ q) : r = s ∧ p = q := by
  simp only [redoBytes, List.append_assoc] at h
  obtain ⟨h1, h2⟩ := vints_inj _ _ _ _ (by simp [redoNums]) h
  obtain ⟨h3, h4⟩ := bytesOf_inj h2
  obtain ⟨h5, h6⟩ := bytesOf_inj h4
  refine ⟨?_, h6⟩
  obtain ⟨lsn, back, epoch, group, page, kind, slot, key, val, last⟩ := r
  obtain ⟨lsn', back', epoch', group', page', kind', slot', key', val', last'⟩ := s
  simp only [redoNums, List.cons.injEq, and_true] at h1
  obtain ⟨rfl, rfl, rfl, rfl, rfl, rfl, rfl, h8⟩ := h1
  dsimp only at h3 h5
  subst h3
  subst h5
  have : last = last' := by
    cases last <;> cases last' <;> first | rfl | (simp at h8)
  rw [this]

theorem take_min_iff {r s : Redo} (n : Nat) (hn : n = min (redoBytes r).length (redoBytes s).length) : r = s ↔ (redoBytes r).take n = (redoBytes s).take n := by
  constructor
  · rintro rfl
    rfl
  · intro h
    by_cases hl : (redoBytes r).length ≤ (redoBytes s).length
    · rw [Nat.min_eq_left hl] at hn
      subst hn
      rw [List.take_length] at h
      have h1 := List.take_append_drop (redoBytes r).length (redoBytes s)
      rw [← h] at h1
      exact (redoBytes_inj (p := (redoBytes s).drop (redoBytes r).length) (q := []) (by rw [h1, List.append_nil])).1
    · rw [Nat.min_eq_right (by omega)] at hn
      subst hn
      rw [List.take_length] at h
      have h1 := List.take_append_drop (redoBytes s).length (redoBytes r)
      rw [h] at h1
      exact (redoBytes_inj (p := (redoBytes r).drop (redoBytes s).length) (q := []) (by rw [h1, List.append_nil])).1.symm
end Go.Proofs.YteclgcnndjcmmaaDoor
namespace Go.Proofs.YteclgcnndjcmmaaDoor
open Go.RowKit

/-- The number at the front: its value and how many bytes; or which error. -/
def numGo : List UInt8 → Nat → Nat → Except Nat (Nat × Nat)
  | [], _, _ => .error 0
  | c :: r, i, z =>
    if i = 9 ∧ 1 < c.toNat then .error 2
    else if 128 ≤ c.toNat then numGo r (i + 1) (z + c.toNat % 128 * 128 ^ i)
    else if c.toNat = 0 ∧ 0 < i then .error 2
    else .ok (z + c.toNat * 128 ^ i, i + 1)
def zag (z : Nat) : Int := if z % 2 = 0 then ((z / 2 : Nat) : Int) else -((z / 2 : Nat) : Int) - 1
theorem zig_zag (z : Nat) : zig (zag z) = z := by
  unfold zag zig
  split <;> split <;> omega
theorem zag_zig (n : Int) : zag (zig n) = n := by
  unfold zag zig
  split <;> split <;> omega

theorem u8_self (c : UInt8) : UInt8.ofNat c.toNat = c := UInt8.ofNat_toNat

theorem numGo_ok : ∀ (l : List UInt8) (i z z' k : Nat), numGo l i z = .ok (z', k) → ∃ m, z' = z + m * 128 ^ i ∧ i < k ∧ k - i ≤ l.length ∧ l.take (k - i) = vint m ∧ (0 < i → 0 < m)
  | [], i, z, z', k, h => by simp [numGo] at h
  | c :: r, i, z, z', k, h => by
    have hc : c.toNat < 256 := c.toNat_lt
    unfold numGo at h
    split at h
    · cases h
    split at h
    · rename_i hge
      obtain ⟨m, h1, h2, h3, h4, h5⟩ := numGo_ok r (i + 1) _ z' k h
      have hm := h5 (Nat.succ_pos _)
      refine ⟨c.toNat % 128 + 128 * m, ?_, by omega, by simp only [List.length_cons]; omega, ?_, fun _ => by omega⟩
      · rw [h1, Nat.pow_succ, Nat.add_mul, Nat.add_assoc, Nat.mul_comm (128 ^ i) 128, ← Nat.mul_assoc, Nat.mul_comm m 128]
      · rw [vint_great (by omega), show k - i = (k - (i + 1)) + 1 by omega, List.take_succ_cons, h4, show (c.toNat % 128 + 128 * m) / 128 = m by omega, show (c.toNat % 128 + 128 * m) % 128 + 128 = c.toNat by omega, u8_self]
    split at h
    · cases h
    · rename_i hlt hz
      injection h with h
      injection h with h1 h2
      refine ⟨c.toNat, h1.symm, by omega, by simp only [List.length_cons]; omega, ?_, fun hi => by omega⟩
      rw [vint_small (by omega), u8_self, show k - i = 1 by omega]
      rfl

theorem numGo_vint : ∀ (m : Nat) (r : List UInt8) (i z : Nat), m * 128 ^ i < 18446744073709551616 → (0 < i → 0 < m) → numGo (vint m ++ r) i z = .ok (z + m * 128 ^ i, i + (vint m).length) := fun m => by
  induction m using Nat.strongRecOn with
  | _ m ih =>
    intro r i z hb hp
    have hi9 : 9 < i → m = 0 := fun h9 => by
      have h1 : 128 ^ 10 ≤ 128 ^ i := Nat.pow_le_pow_right (by decide) h9
      have h2 : (128 : Nat) ^ 10 = 1180591620717411303424 := by decide
      rcases Nat.eq_zero_or_pos m with h | h
      · exact h
      · have := Nat.mul_le_mul h h1
        omega
    have hi : i ≤ 9 := by
      rcases Nat.lt_or_ge 9 i with h | h
      · have := hi9 h
        have := hp (by omega)
        omega
      · exact h
    by_cases hm : m < 128
    · rw [vint_small hm]
      have ht : (UInt8.ofNat m).toNat = m := by rw [UInt8.toNat_ofNat_of_lt' (by simp only [UInt8.size]; omega)]
      show numGo (UInt8.ofNat m :: r) i z = _
      unfold numGo
      rw [ht, if_neg, if_neg (by omega), if_neg]
      · rfl
      · rintro ⟨h1, h2⟩
        have := hp h2
        omega
      · rintro ⟨rfl, h2⟩
        have : (128 : Nat) ^ 9 = 9223372036854775808 := by decide
        omega
    · rw [vint_great hm]
      have ht : (UInt8.ofNat (m % 128 + 128)).toNat = m % 128 + 128 := by rw [UInt8.toNat_ofNat_of_lt' (by simp only [UInt8.size]; omega)]
      have hi8 : i ≤ 8 := by
        rcases Nat.lt_or_ge 8 i with h | h
        · have : i = 9 := by omega
          subst this
          have : (128 : Nat) ^ 9 = 9223372036854775808 := by decide
          omega
        · exact h
      show numGo (UInt8.ofNat (m % 128 + 128) :: (vint (m / 128) ++ r)) i z = _
      unfold numGo
      have hpow : 128 ^ (i + 1) = 128 * 128 ^ i := by rw [Nat.pow_succ, Nat.mul_comm]
      have hle : m / 128 * 128 ^ (i + 1) ≤ m * 128 ^ i := by
        rw [hpow, ← Nat.mul_assoc]
        exact Nat.mul_le_mul_right _ (Nat.div_mul_le_self m 128)
      rw [ht, if_neg (by omega), if_pos (by omega), ih (m / 128) (by omega) r (i + 1) _ (by omega) (fun _ => by omega)]
      congr 1
      rw [List.length_cons, show i + 1 + (vint (m / 128)).length = i + ((vint (m / 128)).length + 1) by omega]
      congr 1
      rw [hpow, show (m % 128 + 128) % 128 = m % 128 by omega, Nat.add_assoc, ← Nat.mul_assoc, ← Nat.add_mul, show m % 128 + m / 128 * 128 = m by omega]

theorem numGo_cut : ∀ (m j i z : Nat), m * 128 ^ i < 18446744073709551616 → (0 < i → 0 < m) → j < (vint m).length → numGo ((vint m).take j) i z = .error 0 := fun m => by
  induction m using Nat.strongRecOn with
  | _ m ih =>
    intro j i z hb hp hj
    cases j with
    | zero => rfl
    | succ j =>
      by_cases hm : m < 128
      · rw [vint_small hm] at hj
        simp at hj
      · rw [vint_great hm] at hj ⊢
        have ht : (UInt8.ofNat (m % 128 + 128)).toNat = m % 128 + 128 := by rw [UInt8.toNat_ofNat_of_lt' (by simp only [UInt8.size]; omega)]
        have hi8 : i ≤ 8 := by
          rcases Nat.lt_or_ge 8 i with h | h
          · have h1 : 128 ^ 9 ≤ 128 ^ i := Nat.pow_le_pow_right (by decide) h
            have h2 : (128 : Nat) ^ 9 = 9223372036854775808 := by decide
            have := Nat.mul_le_mul (show 128 ≤ m by omega) h1
            omega
          · exact h
        have hpow : 128 ^ (i + 1) = 128 * 128 ^ i := by rw [Nat.pow_succ, Nat.mul_comm]
        have hle : m / 128 * 128 ^ (i + 1) ≤ m * 128 ^ i := by
          rw [hpow, ← Nat.mul_assoc]
          exact Nat.mul_le_mul_right _ (Nat.div_mul_le_self m 128)
        rw [List.take_succ_cons]
        unfold numGo
        rw [ht, if_neg (by omega), if_pos (by omega)]
        exact ih (m / 128) (by omega) j (i + 1) _ (by omega) (fun _ => by omega) (by simpa using hj)
end Go.Proofs.YteclgcnndjcmmaaDoor
namespace Go.Proofs.YteclgcnndjcmmaaDoor
open Go.RowKit

set_option maxRecDepth 100000 in
theorem andNot128 : ∀ x : Nat, x < 256 → bits .andNot .u8 (x : Int) 128 = ((x % 128 : Nat) : Int) := by decide
theorem bits_or_comm (a b : Int) : bits .or .u64 a b = bits .or .u64 b a := by simp only [bits, BitVec.or_comm]
theorem step_lt {y x j : Nat} (hy : y < 128 ^ j) : y + x % 128 * 128 ^ j < 128 ^ (j + 1) := by
  have h1 : x % 128 * 128 ^ j ≤ 127 * 128 ^ j := Nat.mul_le_mul_right _ (by omega)
  rw [Nat.pow_succ]
  omega
theorem step_lt64 {y x j : Nat} (hy : y < 128 ^ j) (hj : j ≤ 9) (h9 : j = 9 → x ≤ 1) : y + x % 128 * 128 ^ j < 18446744073709551616 := by
  by_cases h : j = 9
  · subst h
    have h1 := h9 rfl
    have h2 : (128 : Nat) ^ 9 = 9223372036854775808 := by decide
    rw [h2] at hy ⊢
    have : x % 128 ≤ 1 := by omega
    have := Nat.mul_le_mul_right 9223372036854775808 this
    omega
  · have h1 := step_lt (x := x) hy
    have h2 : 128 ^ (j + 1) ≤ 128 ^ 9 := Nat.pow_le_pow_right (by decide) (by omega)
    have h3 : (128 : Nat) ^ 9 = 9223372036854775808 := by decide
    omega
theorem wrap_u64_nat {a : Nat} (h : a < 18446744073709551616) : IntKind.u64.wrap (a : Int) = (a : Int) := by rw [IntKind.wrap_u64]; omega
theorem or_step {y x j : Nat} (hx : x < 256) (hy : y < 128 ^ j) (hj : j ≤ 9) (h9 : j = 9 → x ≤ 1) :
    bits .or .u64 (y : Int) (IntKind.u64.wrap (IntKind.u64.wrap (bits .andNot .u8 (x : Int) 128) * 2 ^ (7 * j))) = ((y + x % 128 * 128 ^ j : Nat) : Int) := by
  have hlt := step_lt64 hy hj h9
  have hp : (128 : Nat) ^ j = 2 ^ (7 * j) := by rw [Nat.pow_mul]
  rw [andNot128 x hx, wrap_u64_nat (by omega), show ((x % 128 : Nat) : Int) * 2 ^ (7 * j) = ((x % 128 * 128 ^ j : Nat) : Int) by rw [hp]; simp, wrap_u64_nat (by omega), bits_or_comm]
  rw [hp] at hy hlt ⊢
  have h64 : ((2 : Int) ^ 64) = 18446744073709551616 := by decide
  have h1 := bits_join .u64 64 (by decide) (fun n h0 h1 => by rw [IntKind.wrap_u64]; rw [h64] at h1; omega) (7 * j) ((x % 128 * 2 ^ (7 * j) : Nat) : Int) ((y : Nat) : Int) (by omega) (by
    have : ((2 : Int) ^ (7 * j)) = ((2 ^ (7 * j) : Nat) : Int) := by simp
    rw [this]
    exact_mod_cast Nat.mul_mod_left _ _) (by rw [h64]; omega) (by omega) (by
    have : ((2 : Int) ^ (7 * j)) = ((2 ^ (7 * j) : Nat) : Int) := by simp
    rw [this]
    omega) (by rw [h64]; omega)
  rw [h1]
  omega

theorem and_one {Z : Nat} (h : Z < 18446744073709551616) : bits .and .u64 (Z : Int) 1 = ((Z % 2 : Nat) : Int) := by
  have h64 : ((2 : Int) ^ 64) = 18446744073709551616 := by decide
  have h1 := bits_mask .u64 64 (by decide) (fun n h0 h1 => by rw [IntKind.wrap_u64]; rw [h64] at h1; omega) 1 (by decide) (Z : Int) (by omega) (by rw [h64]; omega)
  have e1 : ((2 : Int) ^ 1 - 1) = 1 := by decide
  have e2 : ((2 : Int) ^ 1) = 2 := by decide
  rw [e1, e2] at h1
  rw [h1]
  omega
theorem xor_zero {a : Nat} (h : a < 9223372036854775808) : bits .xor .i64 (a : Int) 0 = (a : Int) := by
  show IntKind.i64.wrap ((BitVec.ofInt 64 (a : Int) ^^^ BitVec.ofInt 64 0).toNat : Int) = _
  rw [show BitVec.ofInt 64 0 = 0#64 by decide, BitVec.xor_zero, BitVec.toNat_ofInt, IntKind.wrap_i64]
  omega
theorem xor_ones {a : Nat} (h : a < 9223372036854775808) : bits .xor .i64 (a : Int) (-1) = -(a : Int) - 1 := by
  show IntKind.i64.wrap ((BitVec.ofInt 64 (a : Int) ^^^ BitVec.ofInt 64 (-1)).toNat : Int) = _
  rw [show BitVec.ofInt 64 (-1) = BitVec.allOnes 64 by decide, BitVec.xor_allOnes, BitVec.toNat_not, BitVec.toNat_ofInt, IntKind.wrap_i64]
  have e : (2 : Nat) ^ 64 = 18446744073709551616 := by decide
  rw [e]
  omega
theorem zag_bits {Z : Nat} (h : Z < 18446744073709551616) : bits .xor .i64 ((Z : Int) / 2) (wrap64 (-wrap64 (bits .and .u64 (Z : Int) 1))) = zag Z := by
  rw [and_one h, show ((Z : Int) / 2) = ((Z / 2 : Nat) : Int) by omega]
  unfold zag
  by_cases h2 : Z % 2 = 0
  · rw [if_pos h2, h2, show wrap64 (-wrap64 ((0 : Nat) : Int)) = 0 by kernel_rfl, xor_zero (by omega)]
  · rw [if_neg h2, show Z % 2 = 1 by omega, show wrap64 (-wrap64 ((1 : Nat) : Int)) = -1 by kernel_rfl, xor_ones (by omega)]

/-- What number answers. -/
def NumRes (qs : List Addr) (res : Except Nat (Nat × Nat)) (e : Ending) : Prop := match res with
  | .ok x => e = .returned (.tuple #[.int .i64 (zag x.1), .int .i64 x.2, .nilIface])
  | .error x => ∃ a, qs[x]? = some a ∧ e = .returned (.tuple #[.int .i64 0, .int .i64 0, errV a])
theorem NumRes.bad {qs : List Addr} {res : Except Nat (Nat × Nat)} {x : Nat} {a : Addr} (h : res = .error x) (ha : qs[x]? = some a) : NumRes qs res (.returned (.tuple #[.int .i64 0, .int .i64 0, .iface 151 (.pointer (some a))])) := by
  subst h
  exact ⟨a, ha, rfl⟩
theorem NumRes.good {qs : List Addr} {res : Except Nat (Nat × Nat)} {z k : Nat} (h : res = .ok (z, k)) : NumRes qs res (.returned (.tuple #[.int .i64 (zag z), .int .i64 k, .nilIface])) := by
  subst h
  rfl

set_option hygiene false in
set_option maxRecDepth 100000 in
set_option maxHeartbeats 2000000 in
theorem number_call {qs : List Addr} {w : World} {R n c pos : Nat} {A : Option Addr} {bs : List UInt8} {S : Nat → Prop} (h : Errs w qs) (k0 : w.cell? ⟨R, 0, none⟩ = some (.slice A n c)) (k1 : w.cell? ⟨R, 1, none⟩ = some (.int .i64 pos)) (hs : Sl kByte S w (.slice A n c) bs) (hp : pos ≤ n) (hn : n ≤ 1000000) :
    Calls Tryd.prog 87 #[.pointer (some ⟨R, 0, none⟩)] w fun e w' => NumRes qs (numGo (bs.drop pos) 0 0) e ∧ Fr All w w' := by
  have En := Lib.hid hs.len
  obtain ⟨aE, qE, gE⟩ := h.at 0 "sextet/api.ErrEnd" 8 rfl (by kernel_rfl)
  obtain ⟨aS, qS, gS⟩ := h.at 2 "sextet/api.ErrShape" 2 rfl (by kernel_rfl)
  have HE := Lib.hid qE
  have HS := Lib.hid qS
  clear qE qS h
  unfold errV at gE gS
  obtain ⟨res, hres⟩ : ∃ res, numGo (bs.drop pos) 0 0 = res := ⟨_, rfl⟩
  rw [hres]
  have Hr := Lib.hid hres
  clear hres
  go_enter Tryd.func87, Tryd.ntmps87
  go_wp2_with fail
  go_loopw [5, 6] (fun z i wr => ∃ (y j : Nat), z = .int .u64 y ∧ i = .int .i64 j ∧ j ≤ 9 ∧ Hid (y < 128 ^ j) ∧ Hid (numGo (bs.drop (pos + j)) j y = res) ∧ Fr All w wr) (fun _ i _ => 10 - (intOf i).toNat)
  case atStart => exact ⟨0, 0, rfl, rfl, by decide, (by decide : 0 < 128 ^ 0), Hr.out, Fr.refl _ _⟩
  case round =>
    obtain ⟨y, j, rfl, rfl, hj, HY, HG, HF⟩ := hrel
    have r0 := HF.cell trivial k0
    have r1 := HF.cell trivial k1
    have e0 := HF.cell (p := ⟨8, 0, none⟩) trivial gE
    have e2 := HF.cell (p := ⟨2, 0, none⟩) trivial gS
    have hw1 : IntKind.i64.wrap ((pos : Int) + (j : Int)) = (pos : Int) + (j : Int) := IntWalk.i64_in _ (by omega)
    by_cases hlt : pos + j < n
    · have hd : decide ((pos : Int) + (j : Int) ≥ (n : Int)) = false := decide_eq_false (by omega)
      obtain ⟨x, hx, _⟩ := get_of (l := bs) (k := pos + j) (by rw [En.out]; exact hlt)
      obtain ⟨b, o, hA, c0⟩ := (hs.all HF).at1 hx
      subst hA
      have Hx := Lib.hid hx
      have b0 : (0 : Int) ≤ (pos : Int) + (j : Int) := by omega
      have b1 : (pos : Int) + (j : Int) < (n : Int) := by omega
      have b2 : ((pos : Int) + (j : Int)).toNat = pos + j := by omega
      clear hx k0 k1 gE gS
      go_wp2_with fail
      go_quiet (fail)
      go_wp2_with fail
      go_quiet (fail)
      have hdrop : bs.drop (pos + j) = x :: bs.drop (pos + (j + 1)) := by
        obtain ⟨h1, h2⟩ := List.getElem?_eq_some_iff.1 Hx.out
        rw [List.drop_eq_getElem_cons h1, h2, Nat.add_assoc]
      have hg := HG.out
      rw [hdrop] at hg
      unfold numGo at hg
      have Hg := Lib.hid hg
      have hx256 : x.toNat < 256 := x.toNat_lt
      clear hg hdrop
      by_cases h9 : j = 9 ∧ 1 < x.toNat
      · have h1 : ((j : Int) == 9) = true := by rw [beq_iff_eq]; omega
        have h2 : decide ((x.toNat : Int) > 1) = true := decide_eq_true (by omega)
        go_wp2_with fail
        go_quiet (fail)
        go_wp2_with fail
        have hg := Hg.out
        rw [if_pos h9] at hg
        exact bodyPost_ret (v := .tuple #[.int .i64 0, .int .i64 0, .iface 151 (.pointer (some aS))]) (by simp [results, Tryd.results87, go_sem]) rfl ⟨NumRes.bad hg.symm HS.out, (HF.drewN _).drewN _⟩
      · obtain ⟨Z, hZ⟩ : ∃ Z, y + x.toNat % 128 * 128 ^ j = Z := ⟨_, rfl⟩
        have h99 : j = 9 → x.toNat ≤ 1 := fun h => by omega
        have hor := or_step hx256 HY.out hj h99
        have hZ64 := step_lt64 HY.out hj h99
        have hZp := step_lt (x := x.toNat) HY.out
        rw [hZ] at hor hZ64 hZp
        have HZ := Lib.hid hZ
        have HZp := Lib.hid hZp
        have hg := Hg.out
        rw [if_neg h9] at hg
        have Hg2 := Lib.hid hg
        clear hZ hZp hg
        have hcases : ((j : Int) == 9) = false ∨ (((j : Int) == 9) = true ∧ decide ((x.toNat : Int) > 1) = false) := by
          by_cases hj9 : j = 9
          · exact .inr ⟨by rw [beq_iff_eq]; omega, decide_eq_false (by omega)⟩
          · exact .inl (by rw [beq_eq_false_iff_ne]; omega)
        rcases hcases with h1 | ⟨h1, h2⟩
        · skip
          by_cases hge : 128 ≤ x.toNat
          · have hd2 : decide ((x.toNat : Int) ≥ 128) = true := decide_eq_true (by omega)
            go_wp2_with fail
            go_roundw
            case rel =>
              have hg := Hg2.out
              rw [if_pos hge, HZ.out] at hg
              exact ⟨Z, j + 1, rfl, by go_num, by omega, HZp.out, hg, HF.drewN _⟩
            case measure => simp [intOf]; omega
          · have hd2 : decide ((x.toNat : Int) ≥ 128) = false := decide_eq_false (by omega)
            have hg := Hg2.out
            rw [if_neg hge] at hg
            have Hg3 := Lib.hid hg
            clear hg
            by_cases h0 : x.toNat = 0 ∧ 0 < j
            · have h3 : ((x.toNat : Int) == 0) = true := by rw [beq_iff_eq]; omega
              have h4 : decide ((j : Int) > 0) = true := decide_eq_true (by omega)
              go_wp2_with fail
              go_quiet (fail)
              go_wp2_with fail
              have hg := Hg3.out
              rw [if_pos h0] at hg
              exact bodyPost_ret (v := .tuple #[.int .i64 0, .int .i64 0, .iface 151 (.pointer (some aS))]) (by simp [results, Tryd.results87, go_sem]) rfl ⟨NumRes.bad hg.symm HS.out, (HF.drewN _).drewN _⟩
            · have hg := Hg3.out
              rw [if_neg h0, show x.toNat = x.toNat % 128 by omega, HZ.out] at hg
              have Hg4 := Lib.hid hg
              clear hg
              have hc2 : ((x.toNat : Int) == 0) = false ∨ (((x.toNat : Int) == 0) = true ∧ decide ((j : Int) > 0) = false) := by
                by_cases hx0 : x.toNat = 0
                · exact .inr ⟨by rw [beq_iff_eq]; omega, decide_eq_false (by omega)⟩
                · exact .inl (by rw [beq_eq_false_iff_ne]; omega)
              rcases hc2 with h3 | ⟨h3, h4⟩
              · have hzag := zag_bits hZ64
                go_wp2_with fail
                go_ret3
                exact ⟨NumRes.good Hg4.out.symm, HF.drewN _⟩
              · have hzag := zag_bits hZ64
                have h5 : decide (0 < j) = false := decide_eq_false (by have := of_decide_eq_false h4; omega)
                have h6 : ¬ 0 < j := of_decide_eq_false h5
                go_wp2_with fail
                go_ret3
                exact ⟨NumRes.good Hg4.out.symm, HF.drewN _⟩
        · skip
          by_cases hge : 128 ≤ x.toNat
          · have hd2 : decide ((x.toNat : Int) ≥ 128) = true := decide_eq_true (by omega)
            go_wp2_with fail
            go_roundw
            case rel =>
              have hg := Hg2.out
              rw [if_pos hge, HZ.out] at hg
              exact ⟨Z, j + 1, rfl, by go_num, by omega, HZp.out, hg, HF.drewN _⟩
            case measure => simp [intOf]; omega
          · have hd2 : decide ((x.toNat : Int) ≥ 128) = false := decide_eq_false (by omega)
            have hg := Hg2.out
            rw [if_neg hge] at hg
            have Hg3 := Lib.hid hg
            clear hg
            by_cases h0 : x.toNat = 0 ∧ 0 < j
            · have h3 : ((x.toNat : Int) == 0) = true := by rw [beq_iff_eq]; omega
              have h4 : decide ((j : Int) > 0) = true := decide_eq_true (by omega)
              go_wp2_with fail
              go_quiet (fail)
              go_wp2_with fail
              have hg := Hg3.out
              rw [if_pos h0] at hg
              exact bodyPost_ret (v := .tuple #[.int .i64 0, .int .i64 0, .iface 151 (.pointer (some aS))]) (by simp [results, Tryd.results87, go_sem]) rfl ⟨NumRes.bad hg.symm HS.out, (HF.drewN _).drewN _⟩
            · have hg := Hg3.out
              rw [if_neg h0, show x.toNat = x.toNat % 128 by omega, HZ.out] at hg
              have Hg4 := Lib.hid hg
              clear hg
              have hc2 : ((x.toNat : Int) == 0) = false ∨ (((x.toNat : Int) == 0) = true ∧ decide ((j : Int) > 0) = false) := by
                by_cases hx0 : x.toNat = 0
                · exact .inr ⟨by rw [beq_iff_eq]; omega, decide_eq_false (by omega)⟩
                · exact .inl (by rw [beq_eq_false_iff_ne]; omega)
              rcases hc2 with h3 | ⟨h3, h4⟩
              · have hzag := zag_bits hZ64
                go_wp2_with fail
                go_ret3
                exact ⟨NumRes.good Hg4.out.symm, HF.drewN _⟩
              · have hzag := zag_bits hZ64
                have h5 : decide (0 < j) = false := decide_eq_false (by have := of_decide_eq_false h4; omega)
                have h6 : ¬ 0 < j := of_decide_eq_false h5
                go_wp2_with fail
                go_ret3
                exact ⟨NumRes.good Hg4.out.symm, HF.drewN _⟩
    · have hd : decide ((pos : Int) + (j : Int) ≥ (n : Int)) = true := decide_eq_true (by omega)
      clear k0 k1 gE gS
      go_wp2_with fail
      go_quiet (fail)
      go_wp2_with fail
      go_quiet (fail)
      go_wp2_with fail
      have hg := HG.out
      rw [List.drop_eq_nil_of_le (by rw [En.out]; omega)] at hg
      exact bodyPost_ret (v := .tuple #[.int .i64 0, .int .i64 0, .iface 151 (.pointer (some aE))]) (by simp [results, Tryd.results87, go_sem]) rfl ⟨NumRes.bad hg.symm HE.out, (HF.drewN _).drewN _⟩
end Go.Proofs.YteclgcnndjcmmaaDoor
