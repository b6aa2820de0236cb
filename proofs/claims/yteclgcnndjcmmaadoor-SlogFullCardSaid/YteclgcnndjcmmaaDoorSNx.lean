/- Numbers of four bytes, as the log writes and reads them. A block of the log's, read. The call behind the end. -/
import Derived.Test.YteclgcnndjcmmaaDoorRBytes
import Derived.Test.YteclgcnndjcmmaaDoorBackLaw
import Derived.Test.YteclgcnndjcmmaaDoorRAll
import Derived.Deep.Cut
import Derived.BigQuiet
import Derived.Laws.BitsLemmas
import Derived.Deep.QuietTactic
import Derived.Test.YteclgcnndjcmmaaDoorDkE
import Derived.Test.YteclgcnndjcmmaaDoorCutting
import Derived.Test.YteclgcnndjcmmaaDoorCRd
namespace Go.Proofs.YteclgcnndjcmmaaDoor
open Go.RowKit

/-- A number's four bytes, the lowest first. -/
def four (n : Nat) : List UInt8 := [UInt8.ofNat n, UInt8.ofNat (n / 256), UInt8.ofNat (n / 65536), UInt8.ofNat (n / 16777216)]
theorem four_len (n : Nat) : (four n).length = 4 := rfl

theorem reps_plain' {α : Type} {enc : α → Value} {h1 : ∀ x, (enc x).oneCell' = true} {S : Nat → Prop} {w : World} : ∀ xs : List α, Reps (Kd.plain enc h1) S w xs (xs.map enc)
  | [] => rfl
  | x :: xs => ⟨[enc x], xs.map enc, rfl, rfl, reps_plain' xs⟩
theorem four_cells {n : Nat} (hn : n < 1000000) : ((four n).map fun b => Value.int .u8 (b.toNat : Int)) = [.int .u8 ((n : Int) % 256), .int .u8 ((n : Int) / 256 % 256), .int .u8 ((n : Int) / 65536), .int .u8 ((n : Int) / 16777216)] := by
  have h (k : Nat) : ((UInt8.ofNat k).toNat : Int) = (k : Int) % 256 := by rw [UInt8.toNat_ofNat']; omega
  have e1 : ((n / 256 : Nat) : Int) % 256 = (n : Int) / 256 % 256 := by omega
  have e2 : ((n / 65536 : Nat) : Int) % 256 = (n : Int) / 65536 := by omega
  have e3 : ((n / 16777216 : Nat) : Int) % 256 = (n : Int) / 16777216 := by omega
  simp only [four, List.map_cons, List.map_nil, h, e1, e2, e3]
set_option maxRecDepth 100000 in
theorem four_call {v : Value} {xs : List UInt8} {base : Nat} {w : World} {n : Nat} (HO : Own kByte 5 base All w v xs) (hb : base ≤ w.heap.size) (hx : xs.length ≤ 1000000) (hn : n < 1000000) :
    Calls Tryd.prog 58 #[v, .int .i64 (n : Int)] w fun e w' => ∃ v', e = .returned v' ∧ Own kByte 5 base All w' v' (xs ++ four n) ∧ Fr (But v.ownBlock) w w' := by
  obtain ⟨A, c, rfl⟩ := HO.length
  have HY : Src kByte Nowhere (w.alloc (.cells #[.int .u8 ((n : Int) % 256), .int .u8 ((n : Int) / 256 % 256), .int .u8 ((n : Int) / 65536), .int .u8 ((n : Int) / 16777216)] 5)) (.slice (some ⟨w.heap.size, 0, none⟩) 4 4) (four n) := by
    have h := (Own.lay (d := kByte) (e := 5) (S := All) (w := w) (base := 0) (reps_plain' (four n)) (Nat.zero_le _) (by rw [four_len]; decide)).src
    rw [four_cells hn] at h
    exact h.any
  have FB := (Fr.refl All w).alloc (.cells #[.int .u8 ((n : Int) % 256), .int .u8 ((n : Int) / 256 % 256), .int .u8 ((n : Int) / 65536), .int .u8 ((n : Int) / 16777216)] 5)
  have HO2 := HO.all FB
  have hln : (xs.length + (four n).length) * 1 ≤ 140737488355328 := by rw [four_len]; omega
  have hbs : base ≤ (w.alloc (.cells #[.int .u8 ((n : Int) % 256), .int .u8 ((n : Int) / 256 % 256), .int .u8 ((n : Int) / 65536), .int .u8 ((n : Int) / 16777216)] 5)).heap.size := Nat.le_trans hb FB.size
  go_enter Tryd.func58, Tryd.ntmps58
  go_wp2_with (at_builtin; refine wpList_app rfl rfl Tryd.underlying34 info_u8 rfl (by decide) HO2 HY rfl rfl (fun _ h _ => h.elim) hln hbs ?_; intro v' w' h3 h4 h5)
  go_ret
  exact ⟨v', rfl, h3, (FB.mono fun _ _ => trivial).trans h4⟩
theorem or64_add {a b : Nat} (i : Nat) (hi : a < 2 ^ i) (hb : b % 2 ^ i = 0) (ha : a < 2 ^ 62) (hb2 : b < 2 ^ 62) : bits .or .i64 (a : Int) (b : Int) = ((a + b : Nat) : Int) := by
  have hw : ∀ n : Int, 0 ≤ n → n < 2 ^ 62 → IntKind.i64.wrap n = n := fun n h0 h1 => by rw [IntKind.wrap_i64]; omega
  rw [(bits_nat .i64 62 (by decide) hw a b ha hb2).2, Nat.or_comm, ← (bits_nat .i64 62 (by decide) hw b a hb2 ha).2,
    bits_join .i64 62 (by decide) hw i (b : Int) (a : Int) (by omega) (by exact_mod_cast hb) (by exact_mod_cast hb2) (by omega) (by exact_mod_cast hi) (by exact_mod_cast ha)]
  omega
theorem says_sum {k : Nat} (hk : k < 1000000) : bits .or .i64 (bits .or .i64 (bits .or .i64 ((k : Int) % 256) ((k : Int) / 256 % 256 * 256)) ((k : Int) / 65536 % 256 * 65536)) ((k : Int) / 16777216 % 256 * 16777216) = (k : Int) := by
  rw [show ((k : Int) % 256) = ((k % 256 : Nat) : Int) by omega, show ((k : Int) / 256 % 256 * 256) = ((k / 256 % 256 * 256 : Nat) : Int) by omega, show ((k : Int) / 65536 % 256 * 65536) = ((k / 65536 % 256 * 65536 : Nat) : Int) by omega, show ((k : Int) / 16777216 % 256 * 16777216) = ((k / 16777216 % 256 * 16777216 : Nat) : Int) by omega,
    or64_add 8 (by omega) (by omega) (by omega) (by omega), or64_add 16 (by omega) (by omega) (by omega) (by omega), or64_add 24 (by omega) (by omega) (by omega) (by omega)]
  omega
set_option maxRecDepth 100000 in
theorem says_call {A : Option Addr} {n c k : Nat} {rest : List UInt8} {S : Nat → Prop} {w : World} (h : Sl kByte S w (.slice A n c) (four k ++ rest)) (hk : k < 1000000) :
    Calls Tryd.prog 62 #[.slice A n c] w fun e w' => e = .returned (.int .i64 (k : Int)) ∧ ∃ q, w' = w.drewN q := by
  have en := h.len
  rw [List.length_append, four_len] at en
  obtain ⟨b, o, rfl, x0⟩ := h.at1 (k := 0) (x := UInt8.ofNat k) rfl
  obtain ⟨b1, o1, hA, x1⟩ := h.at1 (k := 1) (x := UInt8.ofNat (k / 256)) rfl
  obtain ⟨rfl, rfl, _⟩ := Addr.mk.inj (Option.some.inj hA)
  obtain ⟨b1, o1, hA, x2⟩ := h.at1 (k := 2) (x := UInt8.ofNat (k / 65536)) rfl
  obtain ⟨rfl, rfl, _⟩ := Addr.mk.inj (Option.some.inj hA)
  obtain ⟨b1, o1, hA, x3⟩ := h.at1 (k := 3) (x := UInt8.ofNat (k / 16777216)) rfl
  obtain ⟨rfl, rfl, _⟩ := Addr.mk.inj (Option.some.inj hA)
  rw [Nat.add_zero] at x0
  have i0 : (0 : Int) < (n : Int) := by omega
  have i1 : (1 : Int) < (n : Int) := by omega
  have i2 : (2 : Int) < (n : Int) := by omega
  have i3 : (3 : Int) < (n : Int) := by omega
  have j0 : 0 < n := by omega
  have j1 : 1 < n := by omega
  have j2 : 2 < n := by omega
  have j3 : 3 < n := by omega
  clear h hA en
  go_enter Tryd.func62, Tryd.ntmps62
  go_upto_region 1 with fail
  go_quiet (fail)
  go_wp2_with fail
  rw [says_sum hk]
  go_ret
  exact ⟨rfl, _, rfl⟩
end Go.Proofs.YteclgcnndjcmmaaDoor
namespace Go.Proofs.YteclgcnndjcmmaaDoor
open Go.RowKit Go.Maps
variable {G : Nat → Prop}

theorem eql_nil (a : Addr) (w : World) : (binOp .eql 26 .nilIface (.iface 151 (.pointer (some a)))).run Tryd.prog w = .ok (.bool false) w := by kernel_rfl
section
variable {w0 w : World} {D bs bp L : Nat} {ds : DSt} {k i m n : Nat} {x : List UInt8}
set_option maxRecDepth 100000 in
set_option maxHeartbeats 2000000 in
theorem block_some {qs : List Addr} (hE : Errs w0 qs) (h : Held G w0 w D bs bp ds) (c0 : w.cell? ⟨L, 0, none⟩ = some (.pointer (some ⟨D, 0, none⟩))) (c9 : w.cell? ⟨L, 9, none⟩ = some (.int .i64 (k : Int))) (hd : ds.down = false) (h1 : (n : Int) < ds.blocks) (hb : ds.blocks ≤ 16384)
    (hg : ds.get (n : Int) = some (four k ++ (four i ++ (four m ++ x)))) (hx0 : 0 < x.length) (hx : x.length ≤ 1000) (hk : k < 1000000) (hi : i < 1000000) (hm : m < 1000000) :
    Calls Tryd.prog 39 #[.pointer (some ⟨L, 0, none⟩), .int .i64 (n : Int), .int .i64 (i : Int)] w fun e w' => ∃ A c, e = .returned (.tuple #[.slice A x.length c, .int .i64 (m : Int), .nilIface]) ∧ Sl kByte All w' (.slice A x.length c) x ∧ Fr All w w' := by
  obtain ⟨a, ha⟩ := hE.get 8 (by decide)
  obtain ⟨bl, hbl⟩ : ∃ bl, four k ++ (four i ++ (four m ++ x)) = bl := ⟨_, rfl⟩
  rw [hbl] at hg
  have hll : bl.length = 12 + x.length := by rw [← hbl]; simp only [List.length_append, four_len]; omega
  have HG := Lib.hid hg
  have HBL := Lib.hid hbl
  have gE := Lib.hid ((hE.move h.fr).full ha)
  have H := Lib.hid h
  clear hg hbl h ha hE
  go_enter Tryd.func39, Tryd.ntmps39
  go_wp2_with fail
  refine (held_read H.out hd (by omega) h1 hb (fun ys hy => by rw [HG.out] at hy; obtain rfl := Option.some.inj hy; omega)).mono ?_
  rintro e w1 ⟨A, nn, c, ys, rfl, hy, ho, _, f1⟩
  rw [HG.out] at hy ⊢
  obtain rfl : ys = bl := hy
  obtain ⟨A', c', hv⟩ := ho.length
  obtain ⟨rfl, rfl, rfl⟩ := Value.slice.inj hv
  have g1 := f1.cell trivial gE.out
  have hc := ho.sl
  rw [hll] at hc ⊢
  obtain ⟨b, o, rfl, _⟩ := hc.at1 (k := 0) (x := UInt8.ofNat k) (by rw [← HBL.out]; rfl)
  have hcc : 12 + x.length ≤ c := by
    obtain ⟨A2, c2, he, h2, _⟩ := hc
    obtain ⟨_, _, rfl⟩ := Value.slice.inj he
    omega
  have HC := Lib.hid hc
  have HF := Lib.hid f1
  have e1 := eql_nil a w1
  have j1 : decide (((12 + x.length : Nat) : Int) < 12) = false := decide_eq_false (by omega)
  have c0' := f1.cell trivial c0
  have c9' := f1.cell trivial c9
  obtain ⟨N, hN⟩ : ∃ N, 12 + x.length = N := ⟨_, rfl⟩
  rw [hN] at hc hcc j1 HC ⊢
  have hN12 : 12 < N := by omega
  have hN4 : (4 : Int) ≤ (N : Int) := by omega
  have hN8 : (8 : Int) ≤ (N : Int) := by omega
  have hN9 : (12 : Int) ≤ (N : Int) := by omega
  have HN := Lib.hid hN
  clear ho f1 hc c0 c9 hll hN
  have hs4 : Sl kByte (fun _ => True) w1 (.slice (some ⟨b, o + 4, none⟩) (N - 4) (c - 4)) (four i ++ (four m ++ x)) := by
    have h := HC.out.drop (s := 4) (by omega)
    rw [if_neg (by omega), Option.map_some, add_plain, show 4 * kByte.sz = 4 from rfl, show ys.drop 4 = four i ++ (four m ++ x) by rw [← HBL.out]; rfl] at h
    exact h.mono fun _ _ _ => trivial
  have hs8 : Sl kByte (fun _ => True) w1 (.slice (some ⟨b, o + 8, none⟩) (N - 8) (c - 8)) (four m ++ x) := by
    have h := HC.out.drop (s := 8) (by omega)
    rw [if_neg (by omega), Option.map_some, add_plain, show 8 * kByte.sz = 8 from rfl, show ys.drop 8 = four m ++ x by rw [← HBL.out]; rfl] at h
    exact h.mono fun _ _ _ => trivial
  have hs12 : Sl kByte (fun _ => True) w1 (.slice (some ⟨b, o + 12, none⟩) (N - 12) (c - 12)) x := by
    have h := HC.out.drop (s := 12) (by omega)
    rw [if_neg (by omega), Option.map_some, add_plain, show 12 * kByte.sz = 12 from rfl, show ys.drop 12 = x by rw [← HBL.out]; rfl] at h
    exact h.mono fun _ _ _ => trivial
  have H4 := Lib.hid hs4
  have H8 := Lib.hid hs8
  have H12 := Lib.hid hs12
  have hbl : ys = four k ++ (four i ++ (four m ++ x)) := HBL.out.symm
  have H0 : Hid (Sl kByte (fun _ => True) w1 (.slice (some ⟨b, o, none⟩) N c) (four k ++ (four i ++ (four m ++ x)))) := Lib.hid (by rw [← hbl]; exact HC.out.mono fun _ _ _ => trivial)
  clear hs4 hs8 hs12 hbl
  go_upto_region 6 with fail
  go_quiet (first
    | exact Calls.quiet_of (says_call (H0.out.all ((Fr.refl All w1).drewN _)) hk)
    | exact Calls.quiet_of (says_call (H4.out.all ((Fr.refl All w1).drewN _)) hi))
  obtain ⟨W2, hW2⟩ : ∃ W2, w1.drewN nq = W2 := ⟨_, rfl⟩
  have F2 : Fr All w1 W2 := by rw [← hW2]; exact (Fr.refl All w1).drewN _
  rw [hW2]
  have H8' := Lib.hid (H8.out.all F2)
  have H12' := Lib.hid (H12.out.all F2)
  have HF2 := Lib.hid (HF.out.trans F2)
  clear hW2 F2 H8 H12 H4 H0 HC c0' c9' g1 e1
  go_upto_region 8 with fail
  go_quiet (exact Calls.quiet_of (says_call (H8'.out.all ((Fr.refl All W2).drewN _)) hm))
  go_wp2_with fail
  have hx12 : N - 12 = x.length := by have := HN.out; omega
  refine bodyPost_ret (v := .tuple #[.slice (some ⟨b, o + 12, none⟩) (N - 12) (c - 12), .int .i64 (m : Int), .nilIface]) ?_ rfl ?_
  · simp [results, Tryd.results39, go_sem]
  rw [← hx12]
  refine ⟨_, _, rfl, ?_, HF2.out.drewN _⟩
  exact (H12'.out.all ((Fr.refl All W2).drewN _)).mono fun _ _ _ => trivial
set_option maxRecDepth 100000 in
set_option maxHeartbeats 1000000 in
theorem block_none {qs : List Addr} (hE : Errs w0 qs) (h : Held G w0 w D bs bp ds) (c0 : w.cell? ⟨L, 0, none⟩ = some (.pointer (some ⟨D, 0, none⟩))) (hd : ds.down = false) (h1 : (n : Int) < ds.blocks) (hb : ds.blocks ≤ 16384) (hg : ds.get (n : Int) = none) :
    Calls Tryd.prog 39 #[.pointer (some ⟨L, 0, none⟩), .int .i64 (n : Int), .int .i64 (i : Int)] w fun e w' => e = .returned (.tuple #[.slice none 0 0, .int .i64 0, .nilIface]) ∧ Fr All w w' := by
  obtain ⟨a, ha⟩ := hE.get 8 (by decide)
  have HG := Lib.hid hg
  have gE := Lib.hid ((hE.move h.fr).full ha)
  have H := Lib.hid h
  clear hg h ha hE
  go_enter Tryd.func39, Tryd.ntmps39
  go_wp2_with fail
  refine (held_read H.out hd (by omega) h1 hb (fun ys hy => by rw [HG.out] at hy; cases hy)).mono ?_
  rintro e w1 ⟨A, nn, c, ys, rfl, hy, ho, _, f1⟩
  rw [HG.out] at hy ⊢
  have g1 := f1.cell trivial gE.out
  have e1 := eql_nil a w1
  clear ho hy
  go_wp2_with fail
  refine bodyPost_ret (v := .tuple #[.slice none 0 0, .int .i64 0, .nilIface]) ?_ rfl ⟨rfl, f1⟩
  simp [results, Tryd.results39, go_sem]
set_option maxRecDepth 100000 in
set_option maxHeartbeats 1000000 in
theorem block_full {qs : List Addr} (hE : Errs w0 qs) (h : Held G w0 w D bs bp ds) (c0 : w.cell? ⟨L, 0, none⟩ = some (.pointer (some ⟨D, 0, none⟩))) (hd : ds.down = false) (h1 : ds.blocks ≤ (n : Int)) :
    Calls Tryd.prog 39 #[.pointer (some ⟨L, 0, none⟩), .int .i64 (n : Int), .int .i64 (i : Int)] w fun e w' => e = .returned (.tuple #[.slice none 0 0, .int .i64 0, .nilIface]) ∧ Fr All w w' := by
  obtain ⟨a, ha⟩ := hE.get 8 (by decide)
  have gE := Lib.hid ((hE.move h.fr).full ha)
  have H := Lib.hid h
  have HE := Lib.hid hE
  have HA := Lib.hid ha
  clear h ha hE
  go_enter Tryd.func39, Tryd.ntmps39
  go_wp2_with fail
  refine (full_read H.out HE.out HA.out hd (.inr h1)).mono ?_
  rintro e w1 ⟨rfl, _, f1⟩
  have g1 := f1.cell trivial gE.out
  have e1 := eql_same a w1
  go_wp2_with fail
  refine bodyPost_ret (v := .tuple #[.slice none 0 0, .int .i64 0, .nilIface]) ?_ rfl ⟨rfl, f1⟩
  simp [results, Tryd.results39, go_sem]
end
end Go.Proofs.YteclgcnndjcmmaaDoor
namespace Go.Proofs.YteclgcnndjcmmaaDoor
open Go.RowKit Go.Maps
variable {G : Nat → Prop}

def blkB (k : Nat) (c : CallP) : List UInt8 := four k ++ (four 0 ++ (four 1 ++ c.bytes))
/-- A call that fits into one block. -/
structure Call1 (c : CallP) : Prop where
  ok : CallOk c
  fits : c.bytes.length ≤ 244
theorem Call1.pos {c : CallP} (h : Call1 c) : 0 < c.bytes.length := by
  have h1 : c.bytes = vint (zig c.kind) ++ (vints [c.promise, c.installed, c.inc, if c.whole then 1 else 0, c.floor, 0, (c.recs.length : Int)] ++ recsBytes c.recs) := by simp [CallP.bytes, CallP.nums, vints]
  rw [h1, List.length_append]
  have h2 : 0 < (vint (zig c.kind)).length := by
    rw [vint]
    split <;> simp
  omega
section
variable {w0 w : World} {D bs bp L : Nat} {ds : DSt} {k : Nat} {c : CallP}
set_option maxRecDepth 100000 in
set_option maxHeartbeats 2000000 in
theorem next_some {qs : List Addr} (hE : Errs w0 qs) (h : Held G w0 w D bs bp ds) (c0 : w.cell? ⟨L, 0, none⟩ = some (.pointer (some ⟨D, 0, none⟩))) (c8 : w.cell? ⟨L, 8, none⟩ = some (.int .i64 (k : Int))) (c9 : w.cell? ⟨L, 9, none⟩ = some (.int .i64 (k : Int))) (hd : ds.down = false) (h1 : (k : Int) < ds.blocks) (hb : ds.blocks ≤ 16384)
    (hg : ds.get (k : Int) = some (blkB k c)) (hc : Call1 c) :
    Calls Tryd.prog 23 #[.pointer (some ⟨L, 0, none⟩)] w fun e w' => ∃ RA rc, e = .returned (.tuple #[.agg #[.int .i64 c.kind, .int .i64 c.promise, .int .i64 c.installed, .int .i64 c.inc, .bool c.whole, .int .i64 c.floor, .slice none 0 0, .slice RA c.recs.length rc, .bool false], .int .i64 1, .bool true, .nilIface]) ∧ Sl kRedo (From w.heap.size) w' (.slice RA c.recs.length rc) c.recs ∧ Fr All w w' := by
  have F0 := (Fr.refl All w).alloc (.cells #[.int .i64 0, .int .i64 0, .int .i64 0, .int .i64 0, .bool false, .int .i64 0, .slice none 0 0, .slice none 0 0, .bool false] 64)
  have B0 := heap_alloc_new w (.cells #[.int .i64 0, .int .i64 0, .int .i64 0, .int .i64 0, .bool false, .int .i64 0, .slice none 0 0, .slice none 0 0, .bool false] 64)
  have hp := hc.pos
  have hf := hc.fits
  have HOk := Lib.hid hc.ok
  have hEw := Lib.hid (hE.move h.fr)
  have H := Lib.hid (block_some (i := 0) (m := 1) hE (h.all F0) (F0.cell trivial c0) (F0.cell trivial c9) hd h1 hb hg hp (by omega) (by omega) (by omega) (by omega))
  have d8 := F0.cell trivial c8
  clear hg h hE hc c8 c9 c0
  go_enter Tryd.func23, Tryd.ntmps23
  go_wp2_with fail
  refine H.out.mono ?_
  rintro e w1 ⟨A, m, rfl, s1, f1⟩
  have B1 := (f1.block w.heap.size (blk_lt B0) trivial).trans B0
  have F1 := F0.trans f1
  clear B0 F0
  go_wp2_with fail
  refine (clone_bytes s1 (by omega)).mono ?_
  rintro e w2 ⟨A2, m2, rfl, o2, f2⟩
  have B2 := (f2.block w.heap.size (blk_lt B1) trivial).trans B1
  have F2 := F1.trans f2
  clear B1 F1 s1
  go_wp2_with fail
  refine wp_loop_rounds 1 ?_
  rw [rounds_succ]
  go_wp2_with fail
  refine (call_read (hEw.out.move F2) o2.sl HOk.out).mono ?_
  rintro e w3 ⟨RA, rc, rfl, s3, f3⟩
  have B3a := (f3.block w.heap.size (blk_lt B2) trivial).trans B2
  have F3 := F2.trans f3
  obtain ⟨W3, hW3⟩ : ∃ W3, w3.alloc (.cells #[.int .i64 c.kind, .int .i64 c.promise, .int .i64 c.installed, .int .i64 c.inc, .bool c.whole, .int .i64 c.floor, .slice none 0 0, .slice RA c.recs.length rc, .bool false] 64) = W3 := ⟨_, rfl⟩
  have B14 := heap_alloc_new w3 (.cells #[.int .i64 c.kind, .int .i64 c.promise, .int .i64 c.installed, .int .i64 c.inc, .bool c.whole, .int .i64 c.floor, .slice none 0 0, .slice RA c.recs.length rc, .bool false] 64)
  have FX := (Fr.refl All w3).alloc (.cells #[.int .i64 c.kind, .int .i64 c.promise, .int .i64 c.installed, .int .i64 c.inc, .bool c.whole, .int .i64 c.floor, .slice none 0 0, .slice RA c.recs.length rc, .bool false] 64)
  rw [hW3] at B14 FX
  have B3 := (FX.block w.heap.size (blk_lt B3a) trivial).trans B3a
  have hne : w3.heap.size ≠ w.heap.size := by have := blk_lt B3a; omega
  have HS3 := Lib.hid ((s3.mono (T := fun b => w2.heap.size ≤ b ∧ b < w3.heap.size) fun b hb hl => ⟨hb, hl⟩).all FX)
  have ez3 := (blk_cells B14).2
  have HF3 := Lib.hid (F3.trans FX)
  have hsz2 : w.heap.size < w2.heap.size := blk_lt B2
  have hsz3 : w2.heap.size ≤ w3.heap.size := f3.size
  have e0 : W3.cell? ⟨w3.heap.size, 0, none⟩ = some (.int .i64 c.kind) := (blk_cells B14).1 0
  have e1 : W3.cell? ⟨w3.heap.size, 1, none⟩ = some (.int .i64 c.promise) := (blk_cells B14).1 1
  have e2 : W3.cell? ⟨w3.heap.size, 2, none⟩ = some (.int .i64 c.installed) := (blk_cells B14).1 2
  have e3 : W3.cell? ⟨w3.heap.size, 3, none⟩ = some (.int .i64 c.inc) := (blk_cells B14).1 3
  have e4 : W3.cell? ⟨w3.heap.size, 4, none⟩ = some (.bool c.whole) := (blk_cells B14).1 4
  have e5 : W3.cell? ⟨w3.heap.size, 5, none⟩ = some (.int .i64 c.floor) := (blk_cells B14).1 5
  have e6 : W3.cell? ⟨w3.heap.size, 6, none⟩ = some (.slice none 0 0) := (blk_cells B14).1 6
  have e7 : W3.cell? ⟨w3.heap.size, 7, none⟩ = some (.slice RA c.recs.length rc) := (blk_cells B14).1 7
  have e8 : W3.cell? ⟨w3.heap.size, 8, none⟩ = some (.bool false) := (blk_cells B14).1 8
  have y0 : W3.cell? ⟨w.heap.size, 0, none⟩ = some (.int .i64 0) := (blk_cells B3).1 0
  have y1 : W3.cell? ⟨w.heap.size, 1, none⟩ = some (.int .i64 0) := (blk_cells B3).1 1
  have y2 : W3.cell? ⟨w.heap.size, 2, none⟩ = some (.int .i64 0) := (blk_cells B3).1 2
  have y3 : W3.cell? ⟨w.heap.size, 3, none⟩ = some (.int .i64 0) := (blk_cells B3).1 3
  have y4 : W3.cell? ⟨w.heap.size, 4, none⟩ = some (.bool false) := (blk_cells B3).1 4
  have y5 : W3.cell? ⟨w.heap.size, 5, none⟩ = some (.int .i64 0) := (blk_cells B3).1 5
  have y6 : W3.cell? ⟨w.heap.size, 6, none⟩ = some (.slice none 0 0) := (blk_cells B3).1 6
  have y7 : W3.cell? ⟨w.heap.size, 7, none⟩ = some (.slice none 0 0) := (blk_cells B3).1 7
  have y8 : W3.cell? ⟨w.heap.size, 8, none⟩ = some (.bool false) := (blk_cells B3).1 8
  have yz := (blk_cells B3).2
  clear B2 F2 o2 s3 f3 B3a F3 FX B14 B3
  go_wp2_with fail
  refine bodyPost_ret (v := .tuple #[.agg #[.int .i64 c.kind, .int .i64 c.promise, .int .i64 c.installed, .int .i64 c.inc, .bool c.whole, .int .i64 c.floor, .slice none 0 0, .slice RA c.recs.length rc, .bool false], .int .i64 1, .bool true, .nilIface]) ?_ rfl ?_
  · simp [results, Tryd.results23, go_sem, y0, y1, y2, y3, y4, y5, y6, y7, y8]
  have h8 : Fr (fun b => b ≠ w3.heap.size) W3 (W3.setCell ⟨w3.heap.size, 8, none⟩ (.bool false)) := (Fr.refl _ _).setCell (fun m hm => by exact hm) _
  generalize W3.setCell ⟨w3.heap.size, 8, none⟩ (.bool false) = W4 at h8 ⊢
  have hU : Fr (fun b => b ≠ w.heap.size) W4 (((((((((W4.setCell ⟨w.heap.size, 0, none⟩ (.int .i64 c.kind)).setCell ⟨w.heap.size, 1, none⟩ (.int .i64 c.promise)).setCell ⟨w.heap.size, 2, none⟩ (.int .i64 c.installed)).setCell ⟨w.heap.size, 3, none⟩ (.int .i64 c.inc)).setCell ⟨w.heap.size, 4, none⟩ (.bool c.whole)).setCell ⟨w.heap.size, 5, none⟩ (.int .i64 c.floor)).setCell ⟨w.heap.size, 6, none⟩ (.slice none 0 0)).setCell ⟨w.heap.size, 7, none⟩ (.slice RA c.recs.length rc)).setCell ⟨w.heap.size, 8, none⟩ (.bool false)) := by
    repeat (first | (with_reducible exact Fr.refl _ _) | with_reducible refine Fr.setCell ?_ (fun m hm => by exact hm) _)
  have hw3 : w.heap.size ≤ w3.heap.size := by omega
  exact ⟨RA, rc, rfl, ((HS3.out.move' h8 fun b hb _ => by have := hb.2; show b ≠ w3.heap.size; omega).move' hU fun b hb _ => by have := hb.1; show b ≠ w.heap.size; omega).mono fun b hb _ => by have := hb.1; show w.heap.size ≤ b; omega, (HF3.out.newest hw3 h8).newest (Nat.le_refl _) hU⟩
set_option maxRecDepth 100000 in
set_option maxHeartbeats 2000000 in
theorem next_none {qs : List Addr} (hE : Errs w0 qs) (h : Held G w0 w D bs bp ds) (c0 : w.cell? ⟨L, 0, none⟩ = some (.pointer (some ⟨D, 0, none⟩))) (c8 : w.cell? ⟨L, 8, none⟩ = some (.int .i64 (k : Int))) (hd : ds.down = false) (hb : ds.blocks ≤ 16384)
    (hg : ds.get (k : Int) = none) :
    Calls Tryd.prog 23 #[.pointer (some ⟨L, 0, none⟩)] w fun e w' => e = .returned (.tuple #[.agg #[.int .i64 0, .int .i64 0, .int .i64 0, .int .i64 0, .bool false, .int .i64 0, .slice none 0 0, .slice none 0 0, .bool false], .int .i64 0, .bool false, .nilIface]) ∧ Fr All w w' := by
  have F0 := (Fr.refl All w).alloc (.cells #[.int .i64 0, .int .i64 0, .int .i64 0, .int .i64 0, .bool false, .int .i64 0, .slice none 0 0, .slice none 0 0, .bool false] 64)
  have B0 := heap_alloc_new w (.cells #[.int .i64 0, .int .i64 0, .int .i64 0, .int .i64 0, .bool false, .int .i64 0, .slice none 0 0, .slice none 0 0, .bool false] 64)
  have H : Hid (Calls Tryd.prog 39 #[.pointer (some ⟨L, 0, none⟩), .int .i64 (k : Int), .int .i64 ((0 : Nat) : Int)] (w.alloc (.cells #[.int .i64 0, .int .i64 0, .int .i64 0, .int .i64 0, .bool false, .int .i64 0, .slice none 0 0, .slice none 0 0, .bool false] 64)) fun e w' => e = .returned (.tuple #[.slice none 0 0, .int .i64 0, .nilIface]) ∧ Fr All (w.alloc (.cells #[.int .i64 0, .int .i64 0, .int .i64 0, .int .i64 0, .bool false, .int .i64 0, .slice none 0 0, .slice none 0 0, .bool false] 64)) w') := Lib.hid (by
    by_cases h1 : (k : Int) < ds.blocks
    · exact block_none hE (h.all F0) (F0.cell trivial c0) hd h1 hb hg
    · exact block_full hE (h.all F0) (F0.cell trivial c0) hd (by omega))
  have d8 := F0.cell trivial c8
  clear hg h hE c8 c0
  go_enter Tryd.func23, Tryd.ntmps23
  go_wp2_with fail
  refine H.out.mono ?_
  rintro e w1 ⟨rfl, f1⟩
  have B1 := (f1.block w.heap.size (blk_lt B0) trivial).trans B0
  have HF1 := Lib.hid (F0.trans f1)
  have y0 : w1.cell? ⟨w.heap.size, 0, none⟩ = some (.int .i64 0) := (blk_cells B1).1 0
  have y1 : w1.cell? ⟨w.heap.size, 1, none⟩ = some (.int .i64 0) := (blk_cells B1).1 1
  have y2 : w1.cell? ⟨w.heap.size, 2, none⟩ = some (.int .i64 0) := (blk_cells B1).1 2
  have y3 : w1.cell? ⟨w.heap.size, 3, none⟩ = some (.int .i64 0) := (blk_cells B1).1 3
  have y4 : w1.cell? ⟨w.heap.size, 4, none⟩ = some (.bool false) := (blk_cells B1).1 4
  have y5 : w1.cell? ⟨w.heap.size, 5, none⟩ = some (.int .i64 0) := (blk_cells B1).1 5
  have y6 : w1.cell? ⟨w.heap.size, 6, none⟩ = some (.slice none 0 0) := (blk_cells B1).1 6
  have y7 : w1.cell? ⟨w.heap.size, 7, none⟩ = some (.slice none 0 0) := (blk_cells B1).1 7
  have y8 : w1.cell? ⟨w.heap.size, 8, none⟩ = some (.bool false) := (blk_cells B1).1 8
  have yz := (blk_cells B1).2
  clear B0 F0 B1 f1 d8
  go_wp2_with fail
  refine bodyPost_ret (v := .tuple #[.agg #[.int .i64 0, .int .i64 0, .int .i64 0, .int .i64 0, .bool false, .int .i64 0, .slice none 0 0, .slice none 0 0, .bool false], .int .i64 0, .bool false, .nilIface]) ?_ rfl ?_
  · simp [results, Tryd.results23, go_sem, y0, y1, y2, y3, y4, y5, y6, y7, y8]
  have hU : Fr (fun b => b ≠ w.heap.size) w1 (((((((((w1.setCell ⟨w.heap.size, 0, none⟩ (.int .i64 0)).setCell ⟨w.heap.size, 1, none⟩ (.int .i64 0)).setCell ⟨w.heap.size, 2, none⟩ (.int .i64 0)).setCell ⟨w.heap.size, 3, none⟩ (.int .i64 0)).setCell ⟨w.heap.size, 4, none⟩ (.bool false)).setCell ⟨w.heap.size, 5, none⟩ (.int .i64 0)).setCell ⟨w.heap.size, 6, none⟩ (.slice none 0 0)).setCell ⟨w.heap.size, 7, none⟩ (.slice none 0 0)).setCell ⟨w.heap.size, 8, none⟩ (.bool false)) := by
    repeat (first | (with_reducible exact Fr.refl _ _) | with_reducible refine Fr.setCell ?_ (fun m hm => by exact hm) _)
  exact ⟨rfl, HF1.out.newest (Nat.le_refl _) hU⟩
end
end Go.Proofs.YteclgcnndjcmmaaDoor
