/- The document's Put and PutBytes. -/
import Derived.Test.YtoaamcpiljoojaaDoorWire
import Derived.Test.YtoaamcpiljoojaaDoorRefY
namespace Go.Proofs.YtoaamcpiljoojaaDoor
open Go.RowKit

theorem dref_bytes {v : Value} {xs : List UInt8} {S : Nat → Prop} {w : World} (h : Sl kByte S w v xs) (hn : xs.length ≤ 1000000) :
    Calls Tryd.prog 85 #[v] w fun e w' => ∃ A c, e = .returned (.slice A xs.length c) ∧ Own kByte 5 w.heap.size All w' (.slice A xs.length c) xs ∧ Fr All w w' :=
  (ref_bytes h hn).mono fun e w' ⟨v', he, ho, hf⟩ => by
    obtain ⟨A', c', rfl⟩ := ho.length
    exact ⟨A', c', he, ho, hf⟩

theorem byte_more (y : Nat) : bits .and .u64 (y : Int) 127 = ((y % 128 : Nat) : Int) ∧ bits .or .u64 ((y % 128 : Nat) : Int) 128 = ((UInt8.ofNat (y % 128 + 128)).toNat : Int) := by
  have h7 : ∀ a : Nat, a < 128 → a ||| 128 = a + 128 := by decide
  constructor
  · show IntKind.u64.wrap ((BitVec.ofInt 64 (y : Int) &&& BitVec.ofInt 64 127).toNat : Int) = _
    rw [show BitVec.ofInt 64 127 = 127#64 by decide, BitVec.toNat_and, BitVec.toNat_ofInt, show (127#64).toNat = 2 ^ 7 - 1 by decide, Nat.and_two_pow_sub_one_eq_mod, IntKind.wrap_u64]
    have e : (2 : Nat) ^ 64 = 18446744073709551616 := by decide
    rw [e]
    omega
  · rw [show (128 : Int) = ((128 : Nat) : Int) from rfl, u64_or_nat _ _ (by omega) (by decide), h7 _ (by omega), UInt8.toNat_ofNat_of_lt' (by simp only [UInt8.size]; omega)]

set_option hygiene false in
set_option maxRecDepth 100000 in
set_option maxHeartbeats 2000000 in
theorem dput_call {v : Value} {xs : List UInt8} {S : Nat → Prop} {w : World} {n : Int} (h : Sl kByte S w v xs) (hn : xs.length ≤ 1000000) (h0 : -1 ≤ n) (h1 : n < 4611686018427387904) :
    Calls Tryd.prog 72 #[v, .int .i64 n] w fun e w' => ∃ zs A' c', e = .returned (.slice A' zs.length c') ∧ Hid (zs = xs ++ vint (zig n)) ∧ Own kByte 5 w.heap.size All w' (.slice A' zs.length c') zs ∧ Fr All w w' := by
  obtain ⟨A0, m0, c0, rfl, e0, _⟩ := h.open_
  subst e0
  obtain ⟨z, hz⟩ : ∃ z, zig n = z := ⟨_, rfl⟩
  have hzl : Hid ((vint z).length ≤ 9) := vint_len 9 z (by decide) (by rw [← hz]; simp only [zig]; split <;> omega)
  have hneg : (n = -1 ∧ bits .xor .u64 IntKind.u64.max 18446744073709551614 = (z : Int)) ∨ (decide (n < 0) = false ∧ IntKind.u64.wrap (n * 2) = (z : Int) ∧ IntKind.u64.wrap n = n) := by
    rw [← hz]
    by_cases hn : n = -1
    · subst hn
      exact .inl ⟨rfl, by kernel_rfl⟩
    · exact .inr ⟨decide_eq_false (by omega), by rw [IntKind.wrap_u64]; simp only [zig]; split <;> omega, by rw [IntKind.wrap_u64]; omega⟩
  have Hz := Lib.hid hz
  have H := Lib.hid h
  rw [hz]
  clear hz h
  have hm1 : IntKind.u64.wrap (-1) = 18446744073709551615 := by kernel_rfl
  have hm2 : IntKind.u64.wrap 36893488147419103230 = 18446744073709551614 := by kernel_rfl
  rcases hneg with ⟨rfl, hw1⟩ | ⟨hd0, hw1, hw2⟩
  · go_enter Tryd.func72, Tryd.ntmps72
    go_wp2_with fail
    refine (dref_bytes H.out hn).mono ?_
    rintro e w1 ⟨A1, c1, rfl, o1, f1⟩
    go_wp2_with fail
    have hzl2 : Hid ((vint z).length ≤ 9) := hzl
    go_loopw [5, 6] (fun u i wr => ∃ (y : Nat) (pre : List UInt8), i = .int .u64 y ∧ Own kByte 5 w.heap.size All wr u pre ∧ Hid (pre ++ vint y = xs ++ vint z) ∧ Fr All w wr) (fun _ i _ => (intOf i).toNat)
    case atStart => exact ⟨z, xs, rfl, o1, (rfl : xs ++ vint z = xs ++ vint z), f1⟩
    case round =>
      obtain ⟨y, pre, rfl, HP, HE, HF⟩ := hrel
      obtain ⟨A', c', rfl⟩ := HP.length
      have hl : pre.length ≤ 1000100 := by
        have h1 := congrArg List.length HE.out
        have h2 := hzl2.out
        simp only [List.length_append] at h1
        omega
      have hbw : w.heap.size ≤ wr.heap.size := HF.size
      by_cases hy : y < 128
      · obtain ⟨x, rfl⟩ : ∃ x : UInt8, y = x.toNat := ⟨UInt8.ofNat y, by rw [UInt8.toNat_ofNat_of_lt' (by simp only [UInt8.size]; omega)]⟩
        have hd : decide ((x.toNat : Int) ≥ 128) = false := decide_eq_false (by omega)
        have HO2 : Own kByte 5 w.heap.size All (wr.alloc (.cells #[.int .u8 (x.toNat : Int)] 5)) (.slice A' pre.length c') pre := HP.all ((Fr.refl All wr).alloc _)
        have HY : Src kByte Nowhere (wr.alloc (.cells #[.int .u8 (x.toNat : Int)] 5)) (.slice (some ⟨wr.heap.size, 0, none⟩) 1 1) [x] := Src.box (d := kByte) (x := x) (cs := [.int .u8 (x.toNat : Int)]) rfl _ 1
        have F2 := HF.alloc (.cells #[.int .u8 (x.toNat : Int)] 5)
        go_wp2_with (at_builtin; refine wpList_app rfl rfl Tryd.underlying29 info_u8 rfl (by decide) HO2 HY rfl rfl (fun _ h _ => h.elim) (by simp only [List.length_cons, List.length_nil]; omega) (by simp; omega) ?_; intro v' w' h3 h4 h5)
        obtain ⟨A3, c3, rfl⟩ := h3.length
        go_ret
        have e := HE.out
        rw [vint_small hy, show UInt8.ofNat x.toNat = x by simp] at e
        exact ⟨_, A3, c3, rfl, Lib.hid e, h3, F2.row h4.grown (fun k hk => (own_lt HO2 k hk).1)⟩
      · have hd : decide ((y : Int) ≥ 128) = true := decide_eq_true (by omega)
        obtain ⟨hb1, hb2⟩ := byte_more y
        rw [show ((y % 128 : Nat) : Int) = (y : Int) % 128 by omega] at hb1 hb2
        obtain ⟨x, hxe⟩ : ∃ x : UInt8, UInt8.ofNat (y % 128 + 128) = x := ⟨_, rfl⟩
        rw [hxe] at hb2
        have hb3 : (x.toNat : Int) % 256 = (x.toNat : Int) := by have := x.toNat_lt; omega
        have Hxe := Lib.hid hxe
        clear hxe
        have HO2 : Own kByte 5 w.heap.size All (wr.alloc (.cells #[.int .u8 (x.toNat : Int)] 5)) (.slice A' pre.length c') pre := HP.all ((Fr.refl All wr).alloc _)
        have HY : Src kByte Nowhere (wr.alloc (.cells #[.int .u8 (x.toNat : Int)] 5)) (.slice (some ⟨wr.heap.size, 0, none⟩) 1 1) [x] := Src.box (d := kByte) (x := x) (cs := [.int .u8 (x.toNat : Int)]) rfl _ 1
        have F2 := HF.alloc (.cells #[.int .u8 (x.toNat : Int)] 5)
        go_wp2_with (at_builtin; refine wpList_app rfl rfl Tryd.underlying29 info_u8 rfl (by decide) HO2 HY rfl rfl (fun _ h _ => h.elim) (by simp only [List.length_cons, List.length_nil]; omega) (by simp; omega) ?_; intro v' w' h3 h4 h5)
        go_roundw
        case rel =>
          refine ⟨y / 128, pre ++ [x], by go_num, h3, (?_ : pre ++ [x] ++ vint (y / 128) = xs ++ vint z), F2.row h4.grown (fun k hk => (own_lt HO2 k hk).1)⟩
          have e := HE.out
          rw [vint_great hy, Hxe.out] at e
          rw [← e, List.append_assoc]
          rfl
        case measure => simp [intOf]; omega
  · go_enter Tryd.func72, Tryd.ntmps72
    go_wp2_with fail
    refine (dref_bytes H.out hn).mono ?_
    rintro e w1 ⟨A1, c1, rfl, o1, f1⟩
    go_wp2_with fail
    have hzl2 : Hid ((vint z).length ≤ 9) := hzl
    go_loopw [5, 6] (fun u i wr => ∃ (y : Nat) (pre : List UInt8), i = .int .u64 y ∧ Own kByte 5 w.heap.size All wr u pre ∧ Hid (pre ++ vint y = xs ++ vint z) ∧ Fr All w wr) (fun _ i _ => (intOf i).toNat)
    case atStart => exact ⟨z, xs, rfl, o1, (rfl : xs ++ vint z = xs ++ vint z), f1⟩
    case round =>
      obtain ⟨y, pre, rfl, HP, HE, HF⟩ := hrel
      obtain ⟨A', c', rfl⟩ := HP.length
      have hl : pre.length ≤ 1000100 := by
        have h1 := congrArg List.length HE.out
        have h2 := hzl2.out
        simp only [List.length_append] at h1
        omega
      have hbw : w.heap.size ≤ wr.heap.size := HF.size
      by_cases hy : y < 128
      · obtain ⟨x, rfl⟩ : ∃ x : UInt8, y = x.toNat := ⟨UInt8.ofNat y, by rw [UInt8.toNat_ofNat_of_lt' (by simp only [UInt8.size]; omega)]⟩
        have hd : decide ((x.toNat : Int) ≥ 128) = false := decide_eq_false (by omega)
        have HO2 : Own kByte 5 w.heap.size All (wr.alloc (.cells #[.int .u8 (x.toNat : Int)] 5)) (.slice A' pre.length c') pre := HP.all ((Fr.refl All wr).alloc _)
        have HY : Src kByte Nowhere (wr.alloc (.cells #[.int .u8 (x.toNat : Int)] 5)) (.slice (some ⟨wr.heap.size, 0, none⟩) 1 1) [x] := Src.box (d := kByte) (x := x) (cs := [.int .u8 (x.toNat : Int)]) rfl _ 1
        have F2 := HF.alloc (.cells #[.int .u8 (x.toNat : Int)] 5)
        go_wp2_with (at_builtin; refine wpList_app rfl rfl Tryd.underlying29 info_u8 rfl (by decide) HO2 HY rfl rfl (fun _ h _ => h.elim) (by simp only [List.length_cons, List.length_nil]; omega) (by simp; omega) ?_; intro v' w' h3 h4 h5)
        obtain ⟨A3, c3, rfl⟩ := h3.length
        go_ret
        have e := HE.out
        rw [vint_small hy, show UInt8.ofNat x.toNat = x by simp] at e
        exact ⟨_, A3, c3, rfl, Lib.hid e, h3, F2.row h4.grown (fun k hk => (own_lt HO2 k hk).1)⟩
      · have hd : decide ((y : Int) ≥ 128) = true := decide_eq_true (by omega)
        obtain ⟨hb1, hb2⟩ := byte_more y
        rw [show ((y % 128 : Nat) : Int) = (y : Int) % 128 by omega] at hb1 hb2
        obtain ⟨x, hxe⟩ : ∃ x : UInt8, UInt8.ofNat (y % 128 + 128) = x := ⟨_, rfl⟩
        rw [hxe] at hb2
        have hb3 : (x.toNat : Int) % 256 = (x.toNat : Int) := by have := x.toNat_lt; omega
        have Hxe := Lib.hid hxe
        clear hxe
        have HO2 : Own kByte 5 w.heap.size All (wr.alloc (.cells #[.int .u8 (x.toNat : Int)] 5)) (.slice A' pre.length c') pre := HP.all ((Fr.refl All wr).alloc _)
        have HY : Src kByte Nowhere (wr.alloc (.cells #[.int .u8 (x.toNat : Int)] 5)) (.slice (some ⟨wr.heap.size, 0, none⟩) 1 1) [x] := Src.box (d := kByte) (x := x) (cs := [.int .u8 (x.toNat : Int)]) rfl _ 1
        have F2 := HF.alloc (.cells #[.int .u8 (x.toNat : Int)] 5)
        go_wp2_with (at_builtin; refine wpList_app rfl rfl Tryd.underlying29 info_u8 rfl (by decide) HO2 HY rfl rfl (fun _ h _ => h.elim) (by simp only [List.length_cons, List.length_nil]; omega) (by simp; omega) ?_; intro v' w' h3 h4 h5)
        go_roundw
        case rel =>
          refine ⟨y / 128, pre ++ [x], by go_num, h3, (?_ : pre ++ [x] ++ vint (y / 128) = xs ++ vint z), F2.row h4.grown (fun k hk => (own_lt HO2 k hk).1)⟩
          have e := HE.out
          rw [vint_great hy, Hxe.out] at e
          rw [← e, List.append_assoc]
          rfl
        case measure => simp [intOf]; omega

set_option maxRecDepth 100000 in
set_option maxHeartbeats 1000000 in
theorem dput_bytes {v u : Value} {xs ys : List UInt8} {S T : Nat → Prop} {w : World} (h : Sl kByte S w v xs) (k : Sl kByte T w u ys) (hn : xs.length ≤ 1000000) (hy : ys.length ≤ 1000000) :
    Calls Tryd.prog 73 #[v, u] w fun e w' => ∃ zs A' c', e = .returned (.slice A' zs.length c') ∧ Hid (zs = xs ++ vint (zig ys.length) ++ ys) ∧ Own kByte 5 w.heap.size All w' (.slice A' zs.length c') zs ∧ Fr All w w' := by
  obtain ⟨A, m, c, rfl, e1, _⟩ := h.open_
  subst e1
  obtain ⟨B, m2, d, rfl, e2, _⟩ := k.open_
  subst e2
  go_enter Tryd.func73, Tryd.ntmps73
  go_wp2_with fail
  refine (dput_call (n := (ys.length : Int)) h hn (by omega) (by omega)).mono ?_
  rintro e w2 ⟨zs, A2, c2, rfl, hzs, o2, F⟩
  have hl : zs.length ≤ 1000009 := by
    have := vint_len 9 (zig ys.length) (by decide) (by simp only [zig]; split <;> omega)
    rw [hzs.out, List.length_append]
    omega
  have HY : Src kByte Nowhere w2 (.slice B ys.length d) ys := (k.all F).src.any
  go_wp2_with (at_builtin; refine wpList_app rfl rfl Tryd.underlying29 info_u8 rfl (by decide) o2 HY rfl rfl (fun _ h _ => h.elim) (by omega) F.size ?_; intro v' w' h3 h4 h5)
  obtain ⟨A3, c3, rfl⟩ := h3.length
  go_ret
  exact ⟨_, A3, c3, rfl, Lib.hid (by rw [hzs.out]), h3, ⟨h4.os.trans F.os, h4.tape.trans F.tape, h4.output.trans F.output, Nat.le_trans F.size h4.size, fun b hb _ => (h4.block b (Nat.lt_of_lt_of_le hb F.size) (fun e => by have := own_lt o2 b e.symm; omega)).trans (F.block b hb trivial)⟩⟩
end Go.Proofs.YtoaamcpiljoojaaDoor
