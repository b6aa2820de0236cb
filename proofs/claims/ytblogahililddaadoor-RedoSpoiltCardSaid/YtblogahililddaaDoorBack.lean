/- The walk of the law that a record's bytes are read as it. -/
import Derived.Test.YtblogahililddaaDoorRead
import Derived.Test.YtblogahililddaaDoorBackLaw
import Derived.Test.YtblogahililddaaDoorRefB
import Derived.Test.YtblogahililddaaDoorNum
import Derived.Test.YtblogahililddaaDoorUnlike
namespace Go.Proofs.YtblogahililddaaDoor
open Go.RowKit

theorem redoBytes_pos (r : Redo) : 0 < (redoBytes r).length := by
  have h : ∀ z, 0 < (vint z).length := fun z => by
    by_cases h : z < 128
    · rw [vint_small h]
      simp
    · rw [vint_great h]
      simp
  have := h (zig r.lsn)
  simp only [redoBytes, vints, redoNums, List.flatMap_cons, List.length_append]
  omega

set_option hygiene false in
set_option maxRecDepth 100000 in
set_option maxHeartbeats 4000000 in
theorem back_walk {qs : List Addr} {w : World} (h : Errs w qs) {x : Redo} {v0 v1 vb : Value} {bh : List UInt8} (cut : Int) (s0 : Sl kByte All w v0 x.key) (s1 : Sl kByte All w v1 x.val) (sb : Sl kByte All w vb bh) :
    Calls Tryd.prog 5 #[.agg #[.int .i64 x.lsn, .int .i64 x.back, .int .i64 x.epoch, .int .i64 x.group, .int .i64 x.page, .int .i64 x.kind, .int .i64 x.slot, v0, v1, .bool x.last], vb, .int .i64 cut] w
      fun e w' => e = .returned (.bool true) ∧ Fr All w w' := by
  obtain ⟨A0, n0, c0, rfl, ea, _⟩ := s0.open_
  obtain ⟨A1, n1, c1, rfl, eb, _⟩ := s1.open_
  obtain ⟨B, nb, cb, rfl, ec, _⟩ := sb.open_
  have Ec := Lib.hid ec
  clear ea eb ec
  have F0 := (Fr.refl All w).alloc (.cells #[.int .i64 x.lsn, .int .i64 x.back, .int .i64 x.epoch, .int .i64 x.group, .int .i64 x.page, .int .i64 x.kind, .int .i64 x.slot, .slice A0 n0 c0, .slice A1 n1 c1, .bool x.last] 25)
  have P := heap_alloc_new w (.cells #[.int .i64 x.lsn, .int .i64 x.back, .int .i64 x.epoch, .int .i64 x.group, .int .i64 x.page, .int .i64 x.kind, .int .i64 x.slot, .slice A0 n0 c0, .slice A1 n1 c1, .bool x.last] 25)
  go_enter Tryd.func5, Tryd.ntmps5
  go_wp2_with fail
  refine (first3_call (h.move F0)).mono ?_
  rintro e w1 ⟨rfl, f1⟩
  have F1 := F0.trans f1
  have P1 := (f1.block _ (blk_lt P) trivial).trans P
  clear P F0 f1
  obtain ⟨p0, p1, p2, p3, p4, p5, p6, p7, p8, p9, pz⟩ := blk10 P1
  have HR := Sl.lay (Reps.single (kRedo_mk (s0.all F1) (s1.all F1))) 25 1 rfl (by decide)
  have FR := F1.alloc (.cells ([.int .i64 x.lsn, .int .i64 x.back, .int .i64 x.epoch, .int .i64 x.group, .int .i64 x.page, .int .i64 x.kind, .int .i64 x.slot, .slice A0 n0 c0, .slice A1 n1 c1, .bool x.last] : List Value).toArray 25)
  go_wp2_with fail
  refine (right_call 1 (by decide) HR).mono ?_
  rintro e w2 ⟨b, rfl, hb, f2⟩
  have F2 : Fr All w w2 := FR.trans f2
  have PQ : Fr All w1 w2 := ((Fr.refl All w1).alloc _).trans f2
  have P2 := (PQ.block _ (blk_lt P1) trivial).trans P1
  clear P1 FR f2 PQ HR p0 p1 p2 p3 p4 p5 p6 p7 p8 p9 pz F1
  have Hb := Lib.hid hb
  clear hb
  cases b with
  | false =>
    go_wp2_with fail
    go_ret
    exact ⟨rfl, F2⟩
  | true =>
    have ok : validIx x = none := (Hb.out rfl).2 x (by simp)
    have Ok := Lib.hid ok
    clear Hb
    by_cases h50 : nb > 50
    · have hd : decide ((nb : Int) > 50) = true := decide_eq_true (by omega)
      clear ok
      go_wp2_with fail
      go_ret
      exact ⟨rfl, F2⟩
    · have hd : decide ((nb : Int) > 50) = false := decide_eq_false (by omega)
      obtain ⟨p0, p1, p2, p3, p4, p5, p6, p7, p8, p9, pz⟩ := blk10 P2
      go_wp2_with fail
      refine (redo_bytes (h.move F2) (s0.all F2) (s1.all F2) ok).mono ?_
      rintro e w3 ⟨A3, c3, rfl, o3, f3⟩
      obtain ⟨xs, hxs⟩ : ∃ xs, redoBytes x = xs := ⟨_, rfl⟩
      have hlen := redoBytes_small ok
      have hpos := redoBytes_pos x
      rw [hxs] at o3 hlen hpos ⊢
      obtain ⟨L, hL⟩ : ∃ L, xs.length = L := ⟨_, rfl⟩
      rw [hL] at o3 hlen hpos ⊢
      have HL := Lib.hid hL
      have Hxs := Lib.hid hxs
      have F3 := F2.trans f3
      have P3 := (f3.block _ (blk_lt P2) trivial).trans P2
      have k1 : ((L : Int) == 0) = false := by rw [beq_eq_false_iff_ne]; omega
      have k2 : decide ((L : Int) ≥ 256) = false := decide_eq_false (by omega)
      have O3 := Lib.hid o3
      clear P2 F2 f3 ok hxs hL p0 p1 p2 p3 p4 p5 p6 p7 p8 p9 pz o3
      obtain ⟨p0, p1, p2, p3, p4, p5, p6, p7, p8, p9, pz⟩ := blk10 P3
      go_wp2_with fail
      refine (ref_bytes O3.out.sl (by rw [HL.out]; omega)).mono ?_
      rintro e w4 ⟨v4, rfl, o4, f4⟩
      have F4 := F3.trans f4
      have HY := (sb.all F4).src
      obtain ⟨zs, hzs⟩ : ∃ zs, xs ++ bh = zs := ⟨_, rfl⟩
      have hbl : (xs.length + bh.length) * 1 ≤ 140737488355328 := by
        have := HL.out
        have := Ec.out
        omega
      have HY2 := HY.any (T := Nowhere)
      go_wp2_with (at_builtin; refine wpList_app rfl rfl Tryd.underlying23 info_u8 rfl (by decide) o4 HY2 rfl rfl (fun _ h _ => h.elim) hbl f4.size ?_; intro v5 w5 h5 g5 j5)
      rw [hzs] at h5
      have Hzs := Lib.hid hzs
      have f5 : Fr All w3 w5 := f4.row g5.grown (fun m hm => (own_lt o4 m hm).1)
      have F5 := F3.trans f5
      have hzl : zs.length ≤ 1000000 := by
        have := HL.out
        have := Ec.out
        rw [← Hzs.out, List.length_append]
        omega
      refine (read_call (h.move F5) h5.sl hzl).mono ?_
      rintro e w6 ⟨⟨y, p, er, hF, hR⟩, f6⟩
      rw [← Hzs.out, ← Hxs.out] at hF
      obtain ⟨rfl, hpe⟩ := fromTo_good Ok.out hF
      obtain ⟨rfl, rfl⟩ := Prod.mk.inj hpe
      rcases hR with ⟨_, _, B0, m0, d0, B1, m1, d1, rfl, t0, t1⟩ | ⟨h9, _⟩
      · rw [show (redoBytes y).length = L by rw [Hxs.out]; exact HL.out]
        have F6 := F5.trans f6
        have P6 := ((f5.trans f6).block _ (blk_lt P3) trivial).trans P3
        have F7 := F6.alloc (.cells #[.int .i64 y.lsn, .int .i64 y.back, .int .i64 y.epoch, .int .i64 y.group, .int .i64 y.page, .int .i64 y.kind, .int .i64 y.slot, .slice B0 m0 d0, .slice B1 m1 d1, .bool y.last] 25)
        have F67 := (Fr.refl All w6).alloc (.cells #[.int .i64 y.lsn, .int .i64 y.back, .int .i64 y.epoch, .int .i64 y.group, .int .i64 y.page, .int .i64 y.kind, .int .i64 y.slot, .slice B0 m0 d0, .slice B1 m1 d1, .bool y.last] 25)
        have Q7 := heap_alloc_new w6 (.cells #[.int .i64 y.lsn, .int .i64 y.back, .int .i64 y.epoch, .int .i64 y.group, .int .i64 y.page, .int .i64 y.kind, .int .i64 y.slot, .slice B0 m0 d0, .slice B1 m1 d1, .bool y.last] 25)
        obtain ⟨V, hV⟩ : ∃ V, w6.alloc (.cells #[.int .i64 y.lsn, .int .i64 y.back, .int .i64 y.epoch, .int .i64 y.group, .int .i64 y.page, .int .i64 y.kind, .int .i64 y.slot, .slice B0 m0 d0, .slice B1 m1 d1, .bool y.last] 25) = V := ⟨_, rfl⟩
        rw [hV] at F7 F67 Q7
        have P7 := (F67.block _ (blk_lt P6) trivial).trans P6
        have hs3 := (O3.out.all ((f5.trans f6).trans F67)).sl
        clear hF hpe p0 p1 p2 p3 p4 p5 p6 p7 p8 p9 pz P3 hzs h5 g5 j5 HY HY2 o4
        go_wp2_with fail
        refine (number V (n := cut) (k := (L : Int)) (by omega) (by omega)).mono ?_
        rintro e w7 ⟨r, hr, rfl, hw7⟩
        obtain rfl := hw7.symm
        obtain ⟨_, _, _, he3, _, hcap, _⟩ := hs3.open_
        have hc3 := (Value.slice.inj he3).2.2
        have hn3 := (Value.slice.inj he3).2.1
        have b0 : (0 : Int) ≤ (r : Int) := by omega
        have b1 : (r : Int) ≤ (c3 : Int) := by omega
        have b2 : r ≤ c3 := by omega
        have hrL : r < L := by omega
        have ht := hs3.take (s := r) (by omega)
        have htl : (xs.take r).length ≤ 1000000 := by rw [List.length_take]; omega
        clear hs3 he3 hcap hc3 hn3 hw7 hV
        go_wp2_with fail
        refine (read_call (h.move F7) ht htl).mono ?_
        rintro e w8 ⟨⟨z, p, er, hF, hR⟩, f8⟩
        rcases hR with ⟨rfl, _, _⟩ | ⟨_, te, ae, rfl⟩
        · rw [← Hxs.out] at hF
          exact (fromTo_cut (by rw [Hxs.out, HL.out]; exact hrL) hF).elim
        · have F8 := F7.trans f8
          have F9 := F8.alloc (.cells #[.int .i64 0, .int .i64 0, .int .i64 0, .int .i64 0, .int .i64 0, .int .i64 0, .int .i64 0, .slice none 0 0, .slice none 0 0, .bool false] 25)
          have F89 := (f8).alloc (.cells #[.int .i64 0, .int .i64 0, .int .i64 0, .int .i64 0, .int .i64 0, .int .i64 0, .int .i64 0, .slice none 0 0, .slice none 0 0, .bool false] 25)
          have P9 := (F89.block _ (blk_lt P7) trivial).trans P7
          have Q9 := (F89.block _ (blk_lt Q7) trivial).trans Q7
          obtain ⟨p0, p1, p2, p3, p4, p5, p6, p7, p8, p9, pz⟩ := blk10 P9
          obtain ⟨q0, q1, q2, q3, q4, q5, q6, q7, q8, q9, qz⟩ := blk10 Q9
          have hok := validIx_none Ok.out
          have Hk := Lib.hid (show y.key.length ≤ 32 by omega)
          have Hv := Lib.hid (show y.val.length ≤ 64 by omega)
          clear hF P7 Q7 hok f8 F8 b0 b1 b2 ht htl
          go_wp2_with fail
          refine (same_redo_eq (t0.all (F67.trans F89)) (t1.all (F67.trans F89)) (s0.all F9) (s1.all F9) (by have := Hk.out; omega) (by have := Hv.out; omega)).mono ?_
          rintro e w9 ⟨rfl, f9⟩
          go_wp2_with fail
          go_ret
          exact ⟨rfl, F9.trans f9⟩
      · rcases h9 with h9 | h9
        · exact absurd rfl h9
        · exact absurd Ok.out h9
end Go.Proofs.YtblogahililddaaDoor
