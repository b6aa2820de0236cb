/- Numbers as bytes: put, Put, PutBytes. -/
import Derived.Test.YteclgcnndjcmmaaDoorClone
import Derived.IntWalk
import Derived.Laws.Bits64
import Derived.Laws.BitsAllLaws
namespace Go.Proofs.YteclgcnndjcmmaaDoor
open Go.RowKit

/-- A number without sign, seven bits a byte. -/
def vint (z : Nat) : List UInt8 := if z < 128 then [UInt8.ofNat z] else UInt8.ofNat (z % 128 + 128) :: vint (z / 128)
termination_by z
decreasing_by omega
def zig (n : Int) : Nat := if 0 ≤ n then (2 * n).toNat else (-2 * n - 1).toNat
theorem vint_small {z : Nat} (h : z < 128) : vint z = [UInt8.ofNat z] := by rw [vint, if_pos h]
theorem vint_great {z : Nat} (h : ¬ z < 128) : vint z = UInt8.ofNat (z % 128 + 128) :: vint (z / 128) := by rw [vint, if_neg h]
theorem vint_len : ∀ (k z : Nat), 0 < k → z < 128 ^ k → (vint z).length ≤ k
  | 0, z, h, _ => absurd h (by decide)
  | k + 1, z, _, hz => by
    by_cases h : z < 128
    · rw [vint_small h]
      simp
    · rw [vint_great h, List.length_cons]
      have hk : 0 < k := by
        rcases Nat.eq_zero_or_pos k with rfl | hk
        · simp at hz
          omega
        · exact hk
      have := vint_len k (z / 128) hk (by rw [Nat.pow_succ] at hz; exact Nat.div_lt_of_lt_mul (by omega))
      omega

set_option maxRecDepth 100000 in
theorem or128 (z : Nat) : bits .or .u8 ((z : Int) % 256) 128 = ((UInt8.ofNat (z % 128 + 128)).toNat : Int) := by
  have h : ∀ m : Nat, m < 256 → m ||| 128 = m % 128 + 128 := by decide
  have h1 := u8_or_nat (z % 256) 128 (by omega) (by decide)
  rw [h _ (by omega)] at h1
  rw [show ((z : Int) % 256) = ((z % 256 : Nat) : Int) by omega, show (128 : Int) = ((128 : Nat) : Int) from rfl, h1]
  rw [UInt8.toNat_ofNat_of_lt' (by simp only [UInt8.size]; omega)]
  omega

/-- A row that grows, or has moved to a new block. -/
theorem Fr.onRow {V U : Option Nat} {w a b : World} (h : Fr (But V) w a) (k : Fr (But U) a b) (hU : ∀ m, U = some m → V = some m ∨ w.heap.size ≤ m) : Fr (But V) w b :=
  ⟨k.os.trans h.os, k.tape.trans h.tape, k.output.trans h.output, Nat.le_trans h.size k.size, fun m hm hs => (k.block m (Nat.lt_of_lt_of_le hm h.size) (fun e => by
    rcases hU m e.symm with e2 | e2
    · exact hs e2.symm
    · omega)).trans (h.block m hm hs)⟩

set_option maxRecDepth 100000 in
set_option maxHeartbeats 1000000 in
theorem put_call {v : Value} {xs : List UInt8} {base : Nat} {w : World} {n : Int} (HO : Own kByte 5 base All w v xs) (hb : base ≤ w.heap.size) (hn : xs.length ≤ 1000000) (h0 : -1 ≤ n) (h1 : n < 4611686018427387904) :
    Calls Tryd.prog 92 #[v, .int .i64 n] w fun e w' => ∃ v', e = .returned v' ∧ Own kByte 5 base All w' v' (xs ++ vint (zig n)) ∧ Fr (But v.ownBlock) w w' := by
  obtain ⟨A, c, rfl⟩ := HO.length
  have hx : bits .xor .u64 (IntKind.u64.wrap (IntKind.u64.wrap n * 2)) (IntKind.u64.wrap (n / 9223372036854775808)) = ((zig n : Nat) : Int) := by
    by_cases hm : n = -1
    · subst hm
      kernel_rfl
    obtain ⟨m, rfl⟩ := Int.eq_ofNat_of_zero_le (show 0 ≤ n by omega)
    have e := bits_xor_u64_nat (m * 2) 0 (by omega) (by decide)
    rw [show IntKind.u64.wrap (IntKind.u64.wrap (m : Int) * 2) = (m : Int) * 2 by rw [IntKind.wrap_u64, IntKind.wrap_u64]; omega, show IntKind.u64.wrap ((m : Int) / 9223372036854775808) = (m : Int) / 9223372036854775808 by rw [IntKind.wrap_u64]; omega]
    rw [show ((m : Int) * 2) = ((m * 2 : Nat) : Int) by omega, show ((m : Int) / 9223372036854775808) = ((0 : Nat) : Int) by omega, e]
    simp [zig]
    omega
  obtain ⟨z, hz⟩ : ∃ z, zig n = z := ⟨_, rfl⟩
  have hzl : Hid ((vint z).length ≤ 9) := vint_len 9 z (by decide) (by rw [← hz]; simp only [zig]; split <;> omega)
  rw [hz] at hx ⊢
  clear hz
  go_enter Tryd.func92, Tryd.ntmps92
  go_wp2_with fail
  go_loopw [0, 5] (fun u i wr => ∃ (y : Nat) (pre : List UInt8), i = .int .u64 y ∧ Own kByte 5 base All wr u pre ∧ Hid (pre ++ vint y = xs ++ vint z) ∧ Fr (But (Value.slice A xs.length c).ownBlock) w wr ∧ Hid (∀ m, u.ownBlock = some m → (Value.slice A xs.length c).ownBlock = some m ∨ w.heap.size ≤ m)) (fun _ i _ => (intOf i).toNat)
  case atStart => exact ⟨z, xs, rfl, HO, (rfl : xs ++ vint z = xs ++ vint z), Fr.refl _ _, (fun m hm => .inl hm : ∀ m, (Value.slice A xs.length c).ownBlock = some m → (Value.slice A xs.length c).ownBlock = some m ∨ w.heap.size ≤ m)⟩
  case round =>
    obtain ⟨y, pre, rfl, HP, HE, HF, HU⟩ := hrel
    obtain ⟨A', c', rfl⟩ := HP.length
    have hl : pre.length ≤ 1000100 := by
      have h1 := congrArg List.length HE.out
      have h2 := hzl.out
      simp only [List.length_append] at h1
      omega
    have hbw : base ≤ wr.heap.size := Nat.le_trans hb HF.size
    by_cases hy : y < 128
    · obtain ⟨x, rfl⟩ : ∃ x : UInt8, y = x.toNat := ⟨UInt8.ofNat y, by rw [UInt8.toNat_ofNat_of_lt' (by simp only [UInt8.size]; omega)]⟩
      have hd : decide ((x.toNat : Int) ≥ 128) = false := decide_eq_false (by omega)
      have HO2 : Own kByte 5 base All (wr.alloc (.cells #[.int .u8 (x.toNat : Int)] 5)) (.slice A' pre.length c') pre := HP.all ((Fr.refl All wr).alloc _)
      have HY : Src kByte Nowhere (wr.alloc (.cells #[.int .u8 (x.toNat : Int)] 5)) (.slice (some ⟨wr.heap.size, 0, none⟩) 1 1) [x] := Src.box (d := kByte) (x := x) (cs := [.int .u8 (x.toNat : Int)]) rfl _ 1
      go_wp2_with (at_builtin; refine wpList_app rfl rfl Tryd.underlying34 info_u8 rfl (by decide) HO2 HY rfl rfl (fun _ h _ => h.elim) (by simp only [List.length_cons, List.length_nil]; omega) (by simp; omega) ?_; intro v' w' h3 h4 h5)
      go_ret
      have e := HE.out
      rw [vint_small hy, show UInt8.ofNat x.toNat = x by simp] at e
      rw [← e]
      exact ⟨v', rfl, h3, (HF.alloc _).onRow h4 HU.out⟩
    · have hd : decide ((y : Int) ≥ 128) = true := decide_eq_true (by omega)
      obtain ⟨x, hxv, hxe⟩ : ∃ x : UInt8, bits .or .u8 ((y : Int) % 256) 128 = (x.toNat : Int) ∧ UInt8.ofNat (y % 128 + 128) = x := ⟨_, or128 y, rfl⟩
      have Hxe := Lib.hid hxe
      clear hxe
      have HO2 : Own kByte 5 base All (wr.alloc (.cells #[.int .u8 (x.toNat : Int)] 5)) (.slice A' pre.length c') pre := HP.all ((Fr.refl All wr).alloc _)
      have HY : Src kByte Nowhere (wr.alloc (.cells #[.int .u8 (x.toNat : Int)] 5)) (.slice (some ⟨wr.heap.size, 0, none⟩) 1 1) [x] := Src.box (d := kByte) (x := x) (cs := [.int .u8 (x.toNat : Int)]) rfl _ 1
      go_wp2_with (at_builtin; refine wpList_app rfl rfl Tryd.underlying34 info_u8 rfl (by decide) HO2 HY rfl rfl (fun _ h _ => h.elim) (by simp only [List.length_cons, List.length_nil]; omega) (by simp; omega) ?_; intro v' w' h3 h4 h5)
      go_roundw
      case rel =>
        refine ⟨y / 128, pre ++ [x], by go_num, h3, (?_ : pre ++ [x] ++ vint (y / 128) = xs ++ vint z), (HF.alloc _).onRow h4 HU.out, (?_ : ∀ m, v'.ownBlock = some m → (Value.slice A xs.length c).ownBlock = some m ∨ w.heap.size ≤ m)⟩
        · have e := HE.out
          rw [vint_great hy, Hxe.out] at e
          rw [← e, List.append_assoc]
          rfl
        · intro m hm
          rcases h5 with h5 | h5
          · exact HU.out m (h5.symm.trans hm)
          · have h6 := Option.some.inj (h5.symm.trans hm)
            have h7 := HF.size
            simp only [World.size_alloc] at h6
            exact .inr (by omega)
      case measure => simp [intOf]; omega

set_option maxRecDepth 100000 in
theorem put2_call {v : Value} {xs : List UInt8} {S : Nat → Prop} {w : World} {n : Int} (h : Sl kByte S w v xs) (hn : xs.length ≤ 1000000) (h0 : -1 ≤ n) (h1 : n < 4611686018427387904) :
    Calls Tryd.prog 81 #[v, .int .i64 n] w fun e w' => ∃ A' c', e = .returned (.slice A' (xs ++ vint (zig n)).length c') ∧ Own kByte 5 w.heap.size All w' (.slice A' (xs ++ vint (zig n)).length c') (xs ++ vint (zig n)) ∧ Fr All w w' := by
  obtain ⟨A, m, c, rfl, e1, _⟩ := h.open_
  subst e1
  go_enter Tryd.func81, Tryd.ntmps81
  go_wp2_with fail
  refine (clone_bytes h (by omega)).mono ?_
  rintro e w1 ⟨A1, c1, rfl, o1, f1⟩
  go_wp2_with fail
  refine (put_call o1 f1.size hn h0 h1).mono ?_
  rintro e w2 ⟨v2, rfl, o2, f2⟩
  obtain ⟨A2, c2, rfl⟩ := o2.length
  go_wp2_with fail
  go_ret
  exact ⟨A2, c2, by simp, o2, ⟨f2.os.trans f1.os, f2.tape.trans f1.tape, f2.output.trans f1.output, Nat.le_trans f1.size f2.size, fun b hb _ => (f2.block b (Nat.lt_of_lt_of_le hb f1.size) (fun e => by have := own_lt o1 b e.symm; omega)).trans (f1.block b hb trivial)⟩⟩

set_option maxRecDepth 100000 in
set_option maxHeartbeats 1000000 in
theorem put_bytes_call {v u : Value} {xs ys : List UInt8} {S T : Nat → Prop} {w : World} (h : Sl kByte S w v xs) (k : Sl kByte T w u ys) (hn : xs.length ≤ 1000000) (hy : ys.length ≤ 1000000) :
    Calls Tryd.prog 93 #[v, u] w fun e w' => ∃ A' c', e = .returned (.slice A' (xs ++ vint (zig ys.length) ++ ys).length c') ∧ Own kByte 5 w.heap.size All w' (.slice A' (xs ++ vint (zig ys.length) ++ ys).length c') (xs ++ vint (zig ys.length) ++ ys) ∧ Fr All w w' := by
  obtain ⟨A, m, c, rfl, e1, _⟩ := h.open_
  subst e1
  obtain ⟨B, m2, d, rfl, e2, _⟩ := k.open_
  subst e2
  go_enter Tryd.func93, Tryd.ntmps93
  go_wp2_with fail
  refine (clone_bytes h (by omega)).mono ?_
  rintro e w1 ⟨A1, c1, rfl, o1, f1⟩
  go_wp2_with fail
  refine (put_call (n := (ys.length : Int)) o1 f1.size hn (by omega) (by omega)).mono ?_
  rintro e w2 ⟨v2, rfl, o2, f2⟩
  have F : Fr All w w2 := ⟨f2.os.trans f1.os, f2.tape.trans f1.tape, f2.output.trans f1.output, Nat.le_trans f1.size f2.size, fun b hb _ => (f2.block b (Nat.lt_of_lt_of_le hb f1.size) (fun e => by have := own_lt o1 b e.symm; omega)).trans (f1.block b hb trivial)⟩
  obtain ⟨A2, c2, rfl⟩ := o2.length
  have hl : (xs ++ vint (zig ys.length)).length ≤ 1000009 := by
    have := vint_len 9 (zig ys.length) (by decide) (by simp only [zig]; split <;> omega)
    simp only [List.length_append]
    omega
  have HY : Src kByte Nowhere w2 (.slice B ys.length d) ys := (k.all F).src.any
  obtain ⟨zs, hzs⟩ : ∃ zs, xs ++ vint (zig ys.length) = zs := ⟨_, rfl⟩
  rw [hzs] at o2 hl
  rw [hzs]
  have Hzs := Lib.hid hzs
  clear hzs
  go_wp2_with (at_builtin; refine wpList_app rfl rfl Tryd.underlying34 info_u8 rfl (by decide) o2 HY rfl rfl (fun _ h _ => h.elim) (by omega) F.size ?_; intro v' w' h3 h4 h5)
  obtain ⟨A3, c3, rfl⟩ := h3.length
  go_ret
  rw [Hzs.out]
  exact ⟨A3, c3, rfl, h3, ⟨h4.os.trans F.os, h4.tape.trans F.tape, h4.output.trans F.output, Nat.le_trans F.size h4.size, fun b hb _ => (h4.block b (Nat.lt_of_lt_of_le hb F.size) (fun e => by have := own_lt o2 b e.symm; omega)).trans (F.block b hb trivial)⟩⟩

/-- The same with the row under a name. -/
theorem put2_call' {v : Value} {xs : List UInt8} {S : Nat → Prop} {w : World} {n : Int} (h : Sl kByte S w v xs) (hn : xs.length ≤ 1000000) (h0 : -1 ≤ n) (h1 : n < 4611686018427387904) :
    Calls Tryd.prog 81 #[v, .int .i64 n] w fun e w' => ∃ zs A' c', e = .returned (.slice A' zs.length c') ∧ Hid (zs = xs ++ vint (zig n)) ∧ Own kByte 5 w.heap.size All w' (.slice A' zs.length c') zs ∧ Fr All w w' :=
  (put2_call h hn h0 h1).mono fun _ _ ⟨A', c', e1, e2, e3⟩ => ⟨_, A', c', e1, rfl, e2, e3⟩
theorem put_bytes_call' {v u : Value} {xs ys : List UInt8} {S T : Nat → Prop} {w : World} (h : Sl kByte S w v xs) (k : Sl kByte T w u ys) (hn : xs.length ≤ 1000000) (hy : ys.length ≤ 1000000) :
    Calls Tryd.prog 93 #[v, u] w fun e w' => ∃ zs A' c', e = .returned (.slice A' zs.length c') ∧ Hid (zs = xs ++ vint (zig ys.length) ++ ys) ∧ Own kByte 5 w.heap.size All w' (.slice A' zs.length c') zs ∧ Fr All w w' :=
  (put_bytes_call h k hn hy).mono fun _ _ ⟨A', c', e1, e2, e3⟩ => ⟨_, A', c', e1, rfl, e2, e3⟩
end Go.Proofs.YteclgcnndjcmmaaDoor
