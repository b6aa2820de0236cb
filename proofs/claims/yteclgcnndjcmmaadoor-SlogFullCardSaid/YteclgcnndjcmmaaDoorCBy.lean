/- A call's bytes. -/
import Derived.Test.YteclgcnndjcmmaaDoorCRd
import Derived.Deep.Cut
namespace Go.Proofs.YteclgcnndjcmmaaDoor
open Go.RowKit

theorem Sl.ints3 (w : World) (a0 a1 a2 : Int) (t : TypeId) : Sl kInt All (w.alloc (.cells #[.int .i64 a0, .int .i64 a1, .int .i64 a2] t)) (.slice (some ⟨w.heap.size, 0, none⟩) 3 3) [a0, a1, a2] := by
  refine ⟨_, 3, rfl, Nat.le_refl _, by decide, fun _ => ⟨w.heap.size, 0, rfl, trivial, fun i x hi => ⟨[.int .i64 x], rfl, fun j u hu => ?_⟩⟩⟩
  cases j with
  | succ j => simp at hu
  | zero =>
    obtain rfl : Value.int .i64 x = u := by simpa using hu
    have h1 := World.news_of_block (cs := #[.int .i64 a0, .int .i64 a1, .int .i64 a2]) (t := t) (fr := (0, 0)) (heap_alloc_new w _) i (.int .i64 x)
      (by
        have : ([a0, a1, a2].map (Value.int .i64))[i]? = some (.int .i64 x) := by
          rw [List.getElem?_map, hi]
          rfl
        simpa using this)
    rw [addr_lit] at h1
    rw [show kInt.sz = 1 from rfl, Nat.mul_one, Nat.add_zero]
    exact h1
set_option maxRecDepth 100000 in
set_option maxHeartbeats 4000000 in
theorem call_bytes {qs : List Addr} {w : World} {c : CallP} {RA : Option Addr} {rn rc : Nat} {z : Bool} {S : Nat → Prop} (hq : Errs w qs) (hs : Sl kRedo S w (.slice RA rn rc) c.recs) (ok : CallOk c) :
    Calls Tryd.prog 55 #[.agg #[.int .i64 c.kind, .int .i64 c.promise, .int .i64 c.installed, .int .i64 c.inc, .bool c.whole, .int .i64 c.floor, .slice none 0 0, .slice RA rn rc, .bool z]] w
      fun e w' => ∃ A m, e = .returned (.slice A c.bytes.length m) ∧ Own kByte 5 w.heap.size All w' (.slice A c.bytes.length m) c.bytes ∧ Fr All w w' := by
  have en := hs.len
  have hrl : rn ≤ 40 := by have := ok.rl; omega
  have B := heap_alloc_new w (.cells #[.int .i64 c.kind, .int .i64 c.promise, .int .i64 c.installed, .int .i64 c.inc, .bool c.whole, .int .i64 c.floor, .slice none 0 0, .slice RA rn rc, .bool z] 64)
  have F0 := (Fr.refl All w).alloc (.cells #[.int .i64 c.kind, .int .i64 c.promise, .int .i64 c.installed, .int .i64 c.inc, .bool c.whole, .int .i64 c.floor, .slice none 0 0, .slice RA rn rc, .bool z] 64)
  have HN := Lib.hid ok.nums
  have Ok := Lib.hid ok
  have En := Lib.hid en
  have HS := Lib.hid hs
  have HQ := Lib.hid hq
  have hk0 := ok.k0
  have hk1 := ok.k1
  obtain ⟨bs, hbs⟩ : ∃ bs, c.bytes = bs := ⟨_, rfl⟩
  rw [hbs]
  have HBS := Lib.hid hbs
  clear ok en hs hq hbs
  go_enter Tryd.func55, Tryd.ntmps55
  go_wp2_with fail
  refine (put2_call' (n := c.kind) (Sl.nil_ kByte All _) (by simp) (by omega) (by omega)).mono ?_
  rintro e w1 ⟨zs, A1, c1, rfl, HZ, o1, f1⟩
  have B1 := (f1.block w.heap.size (blk_lt B) trivial).trans B
  have F1 := F0.trans f1
  have y1 : w1.cell? ⟨w.heap.size, 1, none⟩ = some (.int .i64 c.promise) := ((blk_cells B1).1 1).trans rfl
  have y2 : w1.cell? ⟨w.heap.size, 2, none⟩ = some (.int .i64 c.installed) := ((blk_cells B1).1 2).trans rfl
  have y3 : w1.cell? ⟨w.heap.size, 3, none⟩ = some (.int .i64 c.inc) := ((blk_cells B1).1 3).trans rfl
  have hI := Sl.ints3 w1 c.promise c.installed c.inc 3
  have FN := F1.alloc (.cells #[.int .i64 c.promise, .int .i64 c.installed, .int .i64 c.inc] 3)
  have BN := ((Fr.refl All w1).alloc (.cells #[.int .i64 c.promise, .int .i64 c.installed, .int .i64 c.inc] 3)).block w.heap.size (blk_lt B1) trivial |>.trans B1
  have HO1 := o1.all ((Fr.refl All w1).alloc (.cells #[.int .i64 c.promise, .int .i64 c.installed, .int .i64 c.inc] 3))
  go_upto_region 3 with fail
  refine wp_name ?_
  intro W hW
  rw [← hW] at hI FN BN HO1
  have HI := Lib.hid hI
  have HBN := Lib.hid BN
  have HO1' := Lib.hid (HO1.lower (base' := w.heap.size + 1) (by have := F0.size; simp))
  have HFN := Lib.hid FN
  clear hW y1 y2 y3 hI FN BN HO1 B1 F1 f1 o1 B F0
  go_loopw [3, 25] (fun b i wr => ∃ (k : Nat) (us : List UInt8), k ≤ 3 ∧ i = .int .i64 k ∧ Hid (us = vints (c.kind :: [c.promise, c.installed, c.inc].take k)) ∧ Hid (Own kByte 5 (w.heap.size + 1) All wr b us) ∧ Hid (Fr All W wr)) (fun _ i _ => 3 - (Go.RowKit.intOf i).toNat)
  case atStart => exact ⟨0, zs, Nat.zero_le _, rfl, Lib.hid (HZ.out.trans (by simp [vints])), HO1', Lib.hid (Fr.refl _ _)⟩
  case round =>
    obtain ⟨k, us, hk, rfl, HU, HO, HF⟩ := hrel
    obtain ⟨A', c', rfl⟩ := HO.out.length
    have hlen : us.length ≤ 36 := by
      have h1 := vints_len (c.kind :: [c.promise, c.installed, c.inc].take k) (fun n hn => HN.out n (by
        unfold CallP.nums
        rcases List.mem_cons.1 hn with h | h
        · simp [h]
        · have h := List.mem_of_mem_take h
          simp only [List.mem_cons, List.not_mem_nil, or_false] at h
          rcases h with h | h | h <;> simp [h]))
      rw [← HU.out] at h1
      simp only [List.length_cons, List.length_take, List.length_nil] at h1
      omega
    by_cases hlt : k < 3
    · obtain ⟨x, hx, hmem⟩ := get_of (l := [c.promise, c.installed, c.inc]) (k := k) (by simpa using hlt)
      obtain ⟨b, o, hA, c0'⟩ := (HI.out.all HF.out).at1 hx
      have hA2 := Option.some.inj hA
      injection hA2 with hb1 ho1 _
      subst hb1
      subst ho1
      rw [Nat.zero_add] at c0'
      have hx2 := HN.out x (by
        unfold CallP.nums
        simp only [List.mem_cons, List.not_mem_nil, or_false] at hmem
        rcases hmem with h | h | h <;> simp [h])
      have hx0 := hx2.1
      have hx1 := hx2.2
      have Hx := Lib.hid hx
      have b0 : (0 : Int) ≤ (k : Int) := by omega
      have b1 : (k : Int) < 3 := by omega
      clear hx hA hmem hx2
      go_wp2_with fail
      refine (put2_call' HO.out.sl (by omega) (by omega) hx1).mono ?_
      rintro e w2 ⟨ys, A2, c2, rfl, HY, o2, f2⟩
      go_wp2_with fail
      go_roundw
      case rel =>
        refine ⟨k + 1, ys, by omega, by go_num, Lib.hid ?_, Lib.hid (o2.lower (by have := HBN.out; have h1 := blk_lt HBN.out; have h2 := HF.out.size; omega)), Lib.hid (HF.out.trans f2)⟩
        rw [take_snoc Hx.out, ← List.cons_append, vints_app, HY.out, HU.out]
        simp [vints]
      case measure => simp [Go.RowKit.intOf]; omega
    · obtain rfl : k = 3 := by omega
      have HU3 : Hid (us = vints [c.kind, c.promise, c.installed, c.inc]) := HU
      have HB3 := Lib.hid ((HF.out.block w.heap.size (blk_lt HBN.out) trivial).trans HBN.out)
      have HF3 := Lib.hid (HFN.out.trans HF.out)
      clear hlt hk HU HBN HI HO1' HFN HF
      have y4 : wr.cell? ⟨w.heap.size, 4, none⟩ = some (.bool c.whole) := ((blk_cells HB3.out).1 4).trans rfl
      have y5 : wr.cell? ⟨w.heap.size, 5, none⟩ = some (.int .i64 c.floor) := ((blk_cells HB3.out).1 5).trans rfl
      cases hcw : c.whole with
      | true =>
        rw [hcw] at y4
        have HW : Hid ((if c.whole then (1 : Int) else 0) = 1) := Lib.hid (by rw [hcw]; rfl)
        have hfl0 := Ok.out.f0
        have hfl1 := Ok.out.f1
        clear hcw
        go_upto_region 10 with fail
        have HO' := HO.out
        go_region_held3 (fun w' => w'.cell? ⟨w.heap.size, 5, none⟩ = some (.int .i64 c.floor))
          (first | go_keep | exact Fr.cell (by assumption) trivial (by assumption))
          (first
            | (go_at_call_of 81 (Value.int .i64 (1 : Int)); refine (put2_call' (HO'.all (Fr.refl All _).drew).sl (by omega) (by omega) (by omega)).mono ?_; rintro e w2 ⟨xs2, A2, c2, rfl, HX2, o2, f2⟩)
            | (go_at_call 81; refine (put2_call' o2.sl (by rw [HX2.out, List.length_append]; have := vint_len 9 (zig 1) (by omega) (by decide); omega) (by omega) (by omega)).mono ?_; rintro e w3 ⟨xs3, A3, c3, rfl, HX3, o3, f3⟩))
        have hx3 : xs3.length ≤ 60 := by
          rw [HX3.out, HX2.out, List.length_append, List.length_append]
          have h1 := vint_len 9 (zig 1) (by omega) (by decide)
          have h2 := vint_len 9 (zig c.floor) (by omega) (by unfold zig; split <;> omega)
          omega
        have f23 : Fr All wr w3 := ((Fr.refl All wr).drew.trans f2).trans f3
        have HB4 := Lib.hid ((f23.block w.heap.size (blk_lt HB3.out) trivial).trans HB3.out)
        have HF4 := Lib.hid (HF3.out.trans f23)
        have HO3 := Lib.hid (o3.lower (base' := w.heap.size + 1) (by have := blk_lt HB3.out; have := f2.size; have h5 : wr.drew.heap.size = wr.heap.size := rfl; omega))
        have HXX : Hid (xs3 = vints [c.kind, c.promise, c.installed, c.inc, 1, c.floor]) := Lib.hid (by rw [HX3.out, HX2.out, HU3.out]; simp [vints])
        clear y4 y5 HO' HO HB3 HF3 f2 f3 f23 o2 o3 HX2 HX3 hlen
        have y6 : w3.cell? ⟨w.heap.size, 6, none⟩ = some (.slice none 0 0) := ((blk_cells HB4.out).1 6).trans rfl
        go_wp2_with fail
        refine (span_bytes0 w3).mono ?_
        rintro e w4 ⟨A4, c4, rfl, o4, f4⟩
        have HO4 := HO3.out.all f4
        have HY4 : Src kByte Nowhere w4 (.slice A4 1 c4) [0] := o4.src.any
        have hln : (xs3.length + [(0 : UInt8)].length) * 1 ≤ 140737488355328 := by simp only [List.length_singleton]; omega
        have hbs4 : w.heap.size + 1 ≤ w4.heap.size := by have := blk_lt HB4.out; have := f4.size; omega
        have HB5 := (f4.block w.heap.size (blk_lt HB4.out) trivial).trans HB4.out
        have HF5 := HF4.out.trans f4
        clear y6 HO3 HB4 HF4 f4 o4
        go_wp2_with (at_builtin; refine wpList_app rfl rfl Tryd.underlying34 info_u8 rfl (by decide) HO4 HY4 rfl rfl (fun _ h _ => h.elim) hln hbs4 ?_; intro v5 w5 h5 g5 k5; have hne5 : But (Value.slice A3 xs3.length c3).ownBlock w.heap.size := (fun hh => by have := own_lt HO4 _ hh.symm; omega); have HB6 := (g5.block w.heap.size (blk_lt HB5) hne5).trans HB5; have y7 : w5.cell? ⟨w.heap.size, 7, none⟩ = some (.slice RA rn rc) := ((blk_cells HB6).1 7).trans rfl; obtain ⟨A5, c5, hv5⟩ := h5.length; obtain ⟨zs5, hzs5⟩ : ∃ zs5, xs3 ++ [(0 : UInt8)] = zs5 := ⟨_, rfl⟩; rw [hzs5] at h5 hv5; have HZ5 := Lib.hid hzs5; clear hzs5; subst hv5)
        have HF6 := Lib.hid (HF5.row g5.grown (fun k hk => by have := own_lt HO4 k hk; omega))
        have HB6' := Lib.hid HB6
        clear HO4 HY4 hln hbs4 HB5 HF5 g5 k5 HB6 hne5
        have hz5 : zs5.length ≤ 61 := by rw [← HZ5.out, List.length_append, List.length_singleton]; omega
        refine (put2_call' h5.sl (by omega) (by omega) (by omega)).mono ?_
        rintro e w6 ⟨xs6, A6, c6, rfl, HX6, o6, f6⟩
        have hx6 : xs6.length ≤ 80 := by
          rw [HX6.out, List.length_append]
          have h2 := vint_len 9 (zig (rn : Int)) (by omega) (by unfold zig; split <;> omega)
          omega
        have HB7 := Lib.hid ((f6.block w.heap.size (blk_lt HB6'.out) trivial).trans HB6'.out)
        have HF7 := Lib.hid (HF6.out.trans f6)
        have HO7 := Lib.hid (o6.lower (base' := w.heap.size + 1) (blk_lt HB6'.out))
        have HX7 : Hid (xs6 = vints c.nums) := Lib.hid (by
          rw [HX6.out, ← HZ5.out, HXX.out]
          unfold CallP.nums
          rw [HW.out, En.out]
          have h0 : vint (zig 0) = [0] := by kernel_rfl
          simp [vints, h0])
        clear y7 h5 HB6' HF6 f6 o6 HX6 HXX HZ5 hz5
        have y7 : w6.cell? ⟨w.heap.size, 7, none⟩ = some (.slice RA rn rc) := ((blk_cells HB7.out).1 7).trans rfl
        go_wp2_with fail
        clear y7
        go_loopw [3, 57] (fun b i wr => ∃ (k : Nat) (us : List UInt8), k ≤ rn ∧ i = .int .i64 k ∧ Hid (us = xs6 ++ recsBytes (c.recs.take k)) ∧ Hid (Own kByte 5 (w.heap.size + 1) All wr b us) ∧ Hid (Fr All w wr)) (fun _ i _ => rn - (Go.RowKit.intOf i).toNat)
        case atStart => exact ⟨0, xs6, Nat.zero_le _, rfl, Lib.hid (by simp [recsBytes]), HO7, HF7⟩
        case round =>
          obtain ⟨k, us, hk, rfl, HU, HO, HF⟩ := hrel
          obtain ⟨A', c', rfl⟩ := HO.out.length
          by_cases hlt : k < rn
          · obtain ⟨x, hx, hmem⟩ := get_of (l := c.recs) (k := k) (by rw [En.out]; exact hlt)
            have HFA := HF
            obtain ⟨b, o, X0, m0, d0, X1, m1, d1, rfl, g0, g1, g2, g3, g4, g5, g6, g7, g8, g9, t0, t1⟩ := redo_at (HS.out.all HFA.out) hx
            have Hx := Lib.hid hx
            have hv := Ok.out.rv x hmem
            have hul : us.length ≤ 10000 := by
              have h1 := recsBytes_len (l := c.recs.take k) fun r hr => Ok.out.rv r (List.mem_of_mem_take hr)
              rw [List.length_take] at h1
              rw [HU.out, List.length_append]
              omega
            have hrb := redoBytes_len hv
            have b0 : (0 : Int) ≤ (k : Int) := by omega
            have b1 : (k : Int) < (rn : Int) := by omega
            have FX := (Fr.refl All wr).alloc (.cells #[.int .i64 x.lsn, .int .i64 x.back, .int .i64 x.epoch, .int .i64 x.group, .int .i64 x.page, .int .i64 x.kind, .int .i64 x.slot, .slice X0 m0 d0, .slice X1 m1 d1, .bool x.last] 36)
            have T0 := Lib.hid (t0.all FX)
            have T1 := Lib.hid (t1.all FX)
            have HVX := Lib.hid hv
            obtain ⟨W8, hW8⟩ : ∃ W8, wr.alloc (.cells #[.int .i64 x.lsn, .int .i64 x.back, .int .i64 x.epoch, .int .i64 x.group, .int .i64 x.page, .int .i64 x.kind, .int .i64 x.slot, .slice X0 m0 d0, .slice X1 m1 d1, .bool x.last] 36) = W8 := ⟨_, rfl⟩
            have BX := heap_alloc_new wr (.cells #[.int .i64 x.lsn, .int .i64 x.back, .int .i64 x.epoch, .int .i64 x.group, .int .i64 x.page, .int .i64 x.kind, .int .i64 x.slot, .slice X0 m0 d0, .slice X1 m1 d1, .bool x.last] 36)
            rw [hW8] at FX T0 T1 BX
            have HFX := Lib.hid FX
            have HLT := Lib.hid (blk_lt BX)
            have HO8 := Lib.hid (HO.out.all FX)
            clear hx hmem hv t0 t1 FX
            obtain ⟨e0, e1, e2, e3, e4, e5, e6, e7, e8, e9, ez⟩ := blk10 BX
            go_upto_region 16 with fail
            clear g0 g1 g2 g3 g4 g5 g6 g7 g8 g9 BX
            go_wp2_with fail
            refine (redo_bytes (HQ.out.move (HFA.out.trans HFX.out)) T0.out T1.out HVX.out).mono ?_
            rintro e w9 ⟨A9, c9, rfl, o9, f9⟩
            have HO9 := HO8.out.all f9
            have HY9 : Src kByte Nowhere w9 (.slice A9 (redoBytes x).length c9) (redoBytes x) := o9.src.any
            have hln : (us.length + (redoBytes x).length) * 1 ≤ 140737488355328 := by omega
            have hbs : w.heap.size + 1 ≤ w9.heap.size := by have := HF.out.size; have := HLT.out; have := f9.size; omega
            have HF9 := (HF.out.trans HFX.out).trans f9
            clear e0 e1 e2 e3 e4 e5 e6 e7 e8 e9 ez hW8
            go_wp2_with (at_builtin; refine wpList_app rfl rfl Tryd.underlying34 info_u8 rfl (by decide) HO9 HY9 rfl rfl (fun _ h _ => h.elim) hln hbs ?_; intro v10 w10 h10 g10 k10)
            go_roundw
            case rel =>
              refine ⟨k + 1, us ++ redoBytes x, by omega, by go_num, Lib.hid (by rw [HU.out, recsBytes_snoc Hx.out, List.append_assoc]), Lib.hid h10, Lib.hid ?_⟩
              exact HF9.row g10.grown (fun q hq => by have := own_lt HO9 q hq; omega)
            case measure => simp [Go.RowKit.intOf]; omega
          · obtain rfl : k = rn := by omega
            have hus : us = bs := by
              rw [HU.out, ← HBS.out, HX7.out, List.take_of_length_le (by rw [En.out]; omega)]
              rfl
            subst hus
            go_wp2_with fail
            go_ret
            exact ⟨A', c', rfl, HO.out.lower (Nat.le_succ _), HF.out⟩
      | false =>
        rw [hcw] at y4
        have HW : Hid ((if c.whole then (1 : Int) else 0) = 0) := Lib.hid (by rw [hcw]; rfl)
        have hfl0 := Ok.out.f0
        have hfl1 := Ok.out.f1
        clear hcw
        go_upto_region 10 with fail
        have HO' := HO.out
        go_region_held3 (fun w' => w'.cell? ⟨w.heap.size, 5, none⟩ = some (.int .i64 c.floor))
          (first | go_keep | exact Fr.cell (by assumption) trivial (by assumption))
          (first
            | (go_at_call_of 81 (Value.int .i64 (0 : Int)); refine (put2_call' (HO'.all (Fr.refl All _).drew).sl (by omega) (by omega) (by omega)).mono ?_; rintro e w2 ⟨xs2, A2, c2, rfl, HX2, o2, f2⟩)
            | (go_at_call 81; refine (put2_call' o2.sl (by rw [HX2.out, List.length_append]; have := vint_len 9 (zig 0) (by omega) (by decide); omega) (by omega) (by omega)).mono ?_; rintro e w3 ⟨xs3, A3, c3, rfl, HX3, o3, f3⟩))
        have hx3 : xs3.length ≤ 60 := by
          rw [HX3.out, HX2.out, List.length_append, List.length_append]
          have h1 := vint_len 9 (zig 0) (by omega) (by decide)
          have h2 := vint_len 9 (zig c.floor) (by omega) (by unfold zig; split <;> omega)
          omega
        have f23 : Fr All wr w3 := ((Fr.refl All wr).drew.trans f2).trans f3
        have HB4 := Lib.hid ((f23.block w.heap.size (blk_lt HB3.out) trivial).trans HB3.out)
        have HF4 := Lib.hid (HF3.out.trans f23)
        have HO3 := Lib.hid (o3.lower (base' := w.heap.size + 1) (by have := blk_lt HB3.out; have := f2.size; have h5 : wr.drew.heap.size = wr.heap.size := rfl; omega))
        have HXX : Hid (xs3 = vints [c.kind, c.promise, c.installed, c.inc, 0, c.floor]) := Lib.hid (by rw [HX3.out, HX2.out, HU3.out]; simp [vints])
        clear y4 y5 HO' HO HB3 HF3 f2 f3 f23 o2 o3 HX2 HX3 hlen
        have y6 : w3.cell? ⟨w.heap.size, 6, none⟩ = some (.slice none 0 0) := ((blk_cells HB4.out).1 6).trans rfl
        go_wp2_with fail
        refine (span_bytes0 w3).mono ?_
        rintro e w4 ⟨A4, c4, rfl, o4, f4⟩
        have HO4 := HO3.out.all f4
        have HY4 : Src kByte Nowhere w4 (.slice A4 1 c4) [0] := o4.src.any
        have hln : (xs3.length + [(0 : UInt8)].length) * 1 ≤ 140737488355328 := by simp only [List.length_singleton]; omega
        have hbs4 : w.heap.size + 1 ≤ w4.heap.size := by have := blk_lt HB4.out; have := f4.size; omega
        have HB5 := (f4.block w.heap.size (blk_lt HB4.out) trivial).trans HB4.out
        have HF5 := HF4.out.trans f4
        clear y6 HO3 HB4 HF4 f4 o4
        go_wp2_with (at_builtin; refine wpList_app rfl rfl Tryd.underlying34 info_u8 rfl (by decide) HO4 HY4 rfl rfl (fun _ h _ => h.elim) hln hbs4 ?_; intro v5 w5 h5 g5 k5; have hne5 : But (Value.slice A3 xs3.length c3).ownBlock w.heap.size := (fun hh => by have := own_lt HO4 _ hh.symm; omega); have HB6 := (g5.block w.heap.size (blk_lt HB5) hne5).trans HB5; have y7 : w5.cell? ⟨w.heap.size, 7, none⟩ = some (.slice RA rn rc) := ((blk_cells HB6).1 7).trans rfl; obtain ⟨A5, c5, hv5⟩ := h5.length; obtain ⟨zs5, hzs5⟩ : ∃ zs5, xs3 ++ [(0 : UInt8)] = zs5 := ⟨_, rfl⟩; rw [hzs5] at h5 hv5; have HZ5 := Lib.hid hzs5; clear hzs5; subst hv5)
        have HF6 := Lib.hid (HF5.row g5.grown (fun k hk => by have := own_lt HO4 k hk; omega))
        have HB6' := Lib.hid HB6
        clear HO4 HY4 hln hbs4 HB5 HF5 g5 k5 HB6 hne5
        have hz5 : zs5.length ≤ 61 := by rw [← HZ5.out, List.length_append, List.length_singleton]; omega
        refine (put2_call' h5.sl (by omega) (by omega) (by omega)).mono ?_
        rintro e w6 ⟨xs6, A6, c6, rfl, HX6, o6, f6⟩
        have hx6 : xs6.length ≤ 80 := by
          rw [HX6.out, List.length_append]
          have h2 := vint_len 9 (zig (rn : Int)) (by omega) (by unfold zig; split <;> omega)
          omega
        have HB7 := Lib.hid ((f6.block w.heap.size (blk_lt HB6'.out) trivial).trans HB6'.out)
        have HF7 := Lib.hid (HF6.out.trans f6)
        have HO7 := Lib.hid (o6.lower (base' := w.heap.size + 1) (blk_lt HB6'.out))
        have HX7 : Hid (xs6 = vints c.nums) := Lib.hid (by
          rw [HX6.out, ← HZ5.out, HXX.out]
          unfold CallP.nums
          rw [HW.out, En.out]
          have h0 : vint (zig 0) = [0] := by kernel_rfl
          simp [vints, h0])
        clear y7 h5 HB6' HF6 f6 o6 HX6 HXX HZ5 hz5
        have y7 : w6.cell? ⟨w.heap.size, 7, none⟩ = some (.slice RA rn rc) := ((blk_cells HB7.out).1 7).trans rfl
        go_wp2_with fail
        clear y7
        go_loopw [3, 57] (fun b i wr => ∃ (k : Nat) (us : List UInt8), k ≤ rn ∧ i = .int .i64 k ∧ Hid (us = xs6 ++ recsBytes (c.recs.take k)) ∧ Hid (Own kByte 5 (w.heap.size + 1) All wr b us) ∧ Hid (Fr All w wr)) (fun _ i _ => rn - (Go.RowKit.intOf i).toNat)
        case atStart => exact ⟨0, xs6, Nat.zero_le _, rfl, Lib.hid (by simp [recsBytes]), HO7, HF7⟩
        case round =>
          obtain ⟨k, us, hk, rfl, HU, HO, HF⟩ := hrel
          obtain ⟨A', c', rfl⟩ := HO.out.length
          by_cases hlt : k < rn
          · obtain ⟨x, hx, hmem⟩ := get_of (l := c.recs) (k := k) (by rw [En.out]; exact hlt)
            have HFA := HF
            obtain ⟨b, o, X0, m0, d0, X1, m1, d1, rfl, g0, g1, g2, g3, g4, g5, g6, g7, g8, g9, t0, t1⟩ := redo_at (HS.out.all HFA.out) hx
            have Hx := Lib.hid hx
            have hv := Ok.out.rv x hmem
            have hul : us.length ≤ 10000 := by
              have h1 := recsBytes_len (l := c.recs.take k) fun r hr => Ok.out.rv r (List.mem_of_mem_take hr)
              rw [List.length_take] at h1
              rw [HU.out, List.length_append]
              omega
            have hrb := redoBytes_len hv
            have b0 : (0 : Int) ≤ (k : Int) := by omega
            have b1 : (k : Int) < (rn : Int) := by omega
            have FX := (Fr.refl All wr).alloc (.cells #[.int .i64 x.lsn, .int .i64 x.back, .int .i64 x.epoch, .int .i64 x.group, .int .i64 x.page, .int .i64 x.kind, .int .i64 x.slot, .slice X0 m0 d0, .slice X1 m1 d1, .bool x.last] 36)
            have T0 := Lib.hid (t0.all FX)
            have T1 := Lib.hid (t1.all FX)
            have HVX := Lib.hid hv
            obtain ⟨W8, hW8⟩ : ∃ W8, wr.alloc (.cells #[.int .i64 x.lsn, .int .i64 x.back, .int .i64 x.epoch, .int .i64 x.group, .int .i64 x.page, .int .i64 x.kind, .int .i64 x.slot, .slice X0 m0 d0, .slice X1 m1 d1, .bool x.last] 36) = W8 := ⟨_, rfl⟩
            have BX := heap_alloc_new wr (.cells #[.int .i64 x.lsn, .int .i64 x.back, .int .i64 x.epoch, .int .i64 x.group, .int .i64 x.page, .int .i64 x.kind, .int .i64 x.slot, .slice X0 m0 d0, .slice X1 m1 d1, .bool x.last] 36)
            rw [hW8] at FX T0 T1 BX
            have HFX := Lib.hid FX
            have HLT := Lib.hid (blk_lt BX)
            have HO8 := Lib.hid (HO.out.all FX)
            clear hx hmem hv t0 t1 FX
            obtain ⟨e0, e1, e2, e3, e4, e5, e6, e7, e8, e9, ez⟩ := blk10 BX
            go_upto_region 16 with fail
            clear g0 g1 g2 g3 g4 g5 g6 g7 g8 g9 BX
            go_wp2_with fail
            refine (redo_bytes (HQ.out.move (HFA.out.trans HFX.out)) T0.out T1.out HVX.out).mono ?_
            rintro e w9 ⟨A9, c9, rfl, o9, f9⟩
            have HO9 := HO8.out.all f9
            have HY9 : Src kByte Nowhere w9 (.slice A9 (redoBytes x).length c9) (redoBytes x) := o9.src.any
            have hln : (us.length + (redoBytes x).length) * 1 ≤ 140737488355328 := by omega
            have hbs : w.heap.size + 1 ≤ w9.heap.size := by have := HF.out.size; have := HLT.out; have := f9.size; omega
            have HF9 := (HF.out.trans HFX.out).trans f9
            clear e0 e1 e2 e3 e4 e5 e6 e7 e8 e9 ez hW8
            go_wp2_with (at_builtin; refine wpList_app rfl rfl Tryd.underlying34 info_u8 rfl (by decide) HO9 HY9 rfl rfl (fun _ h _ => h.elim) hln hbs ?_; intro v10 w10 h10 g10 k10)
            go_roundw
            case rel =>
              refine ⟨k + 1, us ++ redoBytes x, by omega, by go_num, Lib.hid (by rw [HU.out, recsBytes_snoc Hx.out, List.append_assoc]), Lib.hid h10, Lib.hid ?_⟩
              exact HF9.row g10.grown (fun q hq => by have := own_lt HO9 q hq; omega)
            case measure => simp [Go.RowKit.intOf]; omega
          · obtain rfl : k = rn := by omega
            have hus : us = bs := by
              rw [HU.out, ← HBS.out, HX7.out, List.take_of_length_le (by rw [En.out]; omega)]
              rfl
            subst hus
            go_wp2_with fail
            go_ret
            exact ⟨A', c', rfl, HO.out.lower (Nat.le_succ _), HF.out⟩
end Go.Proofs.YteclgcnndjcmmaaDoor
