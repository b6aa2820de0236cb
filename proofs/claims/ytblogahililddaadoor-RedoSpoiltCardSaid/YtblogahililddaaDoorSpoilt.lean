/- The walk of the law that a record's bytes with one turned are another record, or none. -/
import Derived.Test.YtblogahililddaaDoorBack
namespace Go.Proofs.YtblogahililddaaDoor
open Go.RowKit

theorem own_byte_set {e : TypeId} {base : Nat} {w : World} {v : Value} {xs : List UInt8} (h : Own kByte e base All w v xs) {k : Nat} {b : UInt8} (hk : xs[k]? = some b) (y : UInt8) :
    ∃ g c, v = .slice (some ⟨g, 0, none⟩) xs.length c ∧ base ≤ g ∧ g < w.heap.size ∧ w.cell? ⟨g, k, none⟩ = some (.int .u8 (b.toNat : Int)) ∧ w.frozen? ⟨g, k, none⟩ = false ∧ Sl kByte All (w.setCell ⟨g, k, none⟩ (.int .u8 (y.toNat : Int))) v (xs.set k y) := by
  have hsl := h.sl
  obtain ⟨b0, o0, hA, hc⟩ : ∃ b0 o0, True ∧ True := ⟨0, 0, trivial, trivial⟩
  obtain ⟨cs, ho, hr⟩ := h
  have hlen := (List.getElem?_eq_some_iff.1 hk).1
  rcases ho.2 with ⟨_, h0⟩ | ⟨g, cap, cur, rfl, hg, hcell, hn, hm, hsz, htk⟩
  · omega
  obtain ⟨hc1, hz⟩ := blk_cells hcell
  obtain ⟨g', o', hA', hck⟩ := hsl.at1 hk
  have hA2 := Option.some.inj hA'
  injection hA2 with hg1 ho1 _
  subst hg1
  subst ho1
  rw [Nat.zero_add] at hck
  refine ⟨g, cap, rfl, hg, World.block_lt_of_cell? w ⟨g, k, none⟩ hck, hck, hz k, some ⟨g, 0, none⟩, cap, by rw [List.length_set], by rw [List.length_set]; exact hn, hm, fun _ => ⟨g, 0, rfl, trivial, fun i x hi => ⟨[.int .u8 (x.toNat : Int)], rfl, fun j u hu => ?_⟩⟩⟩
  cases j with
  | succ j => simp at hu
  | zero =>
    obtain rfl : Value.int .u8 (x.toNat : Int) = u := by simpa using hu
    rw [show kByte.sz = 1 from rfl, Nat.mul_one, Nat.zero_add, Nat.add_zero]
    by_cases hik : i = k
    · subst hik
      rw [List.getElem?_set_self hlen] at hi
      obtain rfl := Option.some.inj hi
      exact World.cell?_setCell_same _ _ _ hck
    · rw [List.getElem?_set_ne (Ne.symm hik)] at hi
      obtain ⟨g', o', hA', hci⟩ := hsl.at1 hi
      have hA2 := Option.some.inj hA'
      injection hA2 with hg1 ho1 _
      subst hg1
      subst ho1
      rw [Nat.zero_add] at hci
      clear hc1 hcell
      go_simp

theorem u8_xor_self (b y : UInt8) (h : y ≠ 0) : b ^^^ y ≠ b := by
  intro e
  apply h
  have : b ^^^ (b ^^^ y) = b ^^^ b := congrArg (b ^^^ ·) e
  simpa [← UInt8.xor_assoc] using this
theorem u8_xor_bits (b y : UInt8) : bits .xor .u8 (b.toNat : Int) (y.toNat : Int) = ((b ^^^ y).toNat : Int) := by
  rw [u8_xor_nat _ _ b.toNat_lt y.toNat_lt, UInt8.toNat_xor]

theorem byte_of_wf {a : Int} (h : (Lit.int .u8 a).wf = true) : ∃ z : UInt8, a = (z.toNat : Int) := by
  have h1 : IntKind.u8.min ≤ a ∧ a ≤ IntKind.u8.max := by simpa [Lit.wf] using h
  have e1 : IntKind.u8.min = 0 := by decide
  have e2 : IntKind.u8.max = 255 := by decide
  rw [e1, e2] at h1
  refine ⟨UInt8.ofNat a.toNat, ?_⟩
  rw [UInt8.toNat_ofNat_of_lt' (by simp only [UInt8.size]; omega)]
  omega

set_option hygiene false in
set_option maxRecDepth 100000 in
set_option maxHeartbeats 4000000 in
theorem spoilt_walk {qs : List Addr} {w : World} (h : Errs w qs) {x : Redo} {v0 v1 : Value} (at_ : Int) (z : UInt8) (s0 : Sl kByte All w v0 x.key) (s1 : Sl kByte All w v1 x.val) :
    Calls Tryd.prog 6 #[.agg #[.int .i64 x.lsn, .int .i64 x.back, .int .i64 x.epoch, .int .i64 x.group, .int .i64 x.page, .int .i64 x.kind, .int .i64 x.slot, v0, v1, .bool x.last], .int .i64 at_, .int .u8 (z.toNat : Int)] w
      fun e w' => e = .returned (.bool true) ∧ Fr All w w' := by
  obtain ⟨A0, n0, c0, rfl, ea, _⟩ := s0.open_
  obtain ⟨A1, n1, c1, rfl, eb, _⟩ := s1.open_
  clear ea eb
  have F0 := (Fr.refl All w).alloc (.cells #[.int .i64 x.lsn, .int .i64 x.back, .int .i64 x.epoch, .int .i64 x.group, .int .i64 x.page, .int .i64 x.kind, .int .i64 x.slot, .slice A0 n0 c0, .slice A1 n1 c1, .bool x.last] 25)
  have P := heap_alloc_new w (.cells #[.int .i64 x.lsn, .int .i64 x.back, .int .i64 x.epoch, .int .i64 x.group, .int .i64 x.page, .int .i64 x.kind, .int .i64 x.slot, .slice A0 n0 c0, .slice A1 n1 c1, .bool x.last] 25)
  go_enter Tryd.func6, Tryd.ntmps6
  go_wp2_with fail
  refine (first3_call (h.move F0)).mono ?_
  rintro e w1 ⟨rfl, f1⟩
  have F1 := F0.trans f1
  have P1 := (f1.block _ (blk_lt P) trivial).trans P
  clear P F0 f1
  obtain ⟨p0, p1, p2, p3, p4, p5, p6, p7, p8, p9, pz⟩ := blk10 P1
  have HR := Sl.lay (Reps.single (kRedo_mk (s0.all F1) (s1.all F1))) 25 1 rfl (by decide)
  have FR := F1.alloc (.cells ([.int .i64 x.lsn, .int .i64 x.back, .int .i64 x.epoch, .int .i64 x.group, .int .i64 x.page, .int .i64 x.kind, .int .i64 x.slot, .slice A0 n0 c0, .slice A1 n1 c1, .bool x.last] : List Value).toArray 25)
  go_wp2_with fail
  refine (right_call 1 (by decide) HR).mono ?_
  rintro e w2 ⟨b, rfl, hb, f2⟩
  have F2 : Fr All w w2 := FR.trans f2
  have PQ : Fr All w1 w2 := ((Fr.refl All w1).alloc _).trans f2
  have P2 := (PQ.block _ (blk_lt P1) trivial).trans P1
  clear P1 FR f2 PQ HR p0 p1 p2 p3 p4 p5 p6 p7 p8 p9 pz F1
  have Hb := Lib.hid hb
  clear hb
  cases b with
  | false =>
    go_wp2_with fail
    go_ret
    exact ⟨rfl, F2⟩
  | true =>
    have ok : validIx x = none := (Hb.out rfl).2 x (by simp)
    have Ok := Lib.hid ok
    clear Hb
    by_cases hz0 : z = 0
    · have hd : ((z.toNat : Int) == 0) = true := by
        subst hz0
        rfl
      clear ok hz0
      go_wp2_with fail
      go_ret
      exact ⟨rfl, F2⟩
    · have hd : ((z.toNat : Int) == 0) = false := by
        rw [beq_eq_false_iff_ne]
        intro e
        exact hz0 (UInt8.toNat_inj.1 (by simpa using (show z.toNat = 0 by omega)))
      obtain ⟨p0, p1, p2, p3, p4, p5, p6, p7, p8, p9, pz⟩ := blk10 P2
      go_wp2_with fail
      refine (redo_bytes (h.move F2) (s0.all F2) (s1.all F2) ok).mono ?_
      rintro e w3 ⟨A3, c3, rfl, o3, f3⟩
      obtain ⟨xs, hxs⟩ : ∃ xs, redoBytes x = xs := ⟨_, rfl⟩
      have hlen := redoBytes_small ok
      have hpos := redoBytes_pos x
      rw [hxs] at o3 hlen hpos ⊢
      obtain ⟨L, hL⟩ : ∃ L, xs.length = L := ⟨_, rfl⟩
      rw [hL] at o3 hlen hpos ⊢
      have HL := Lib.hid hL
      have Hxs := Lib.hid hxs
      have F3 := F2.trans f3
      have P3 := (f3.block _ (blk_lt P2) trivial).trans P2
      have k1 : ((L : Int) == 0) = false := by rw [beq_eq_false_iff_ne]; omega
      have O3 := Lib.hid o3
      have hsz2 := F2.size
      have hlt2 := blk_lt P2
      clear F2 f3 ok hxs hL p0 p1 p2 p3 p4 p5 p6 p7 p8 p9 pz o3 P2 hd
      obtain ⟨p0, p1, p2, p3, p4, p5, p6, p7, p8, p9, pz⟩ := blk10 P3
      go_wp2_with fail
      refine (number w3 (n := at_) (k := (L : Int)) (by omega) (by omega)).mono ?_
      rintro e w4 ⟨r, hr, rfl, hw4⟩
      obtain rfl := hw4.symm
      have hrL : r < L := by omega
      obtain ⟨b, hb, _⟩ := get_of (l := xs) (k := r) (by rw [HL.out]; exact hrL)
      have hx := u8_xor_bits b z
      obtain ⟨t, ht⟩ : ∃ t, b ^^^ z = t := ⟨_, rfl⟩
      rw [ht] at hx
      have Ht := Lib.hid ht
      clear ht
      obtain ⟨g, c, hv, hg, hgl, hc, hfz, hsl⟩ := own_byte_set O3.out hb t
      rw [HL.out] at hv
      obtain ⟨rfl, _, rfl⟩ := Value.slice.inj hv
      have b0 : (0 : Int) ≤ (r : Int) := by omega
      have b1 : (r : Int) < (L : Int) := by omega
      have hgw : w.heap.size ≠ g := by omega
      have Hb := Lib.hid hb
      have Hsl := Lib.hid hsl
      clear hb hsl hw4 hv
      go_upto_region 10 with (fail)
      refine wp_name ?_
      intro V hV
      have hsl := Hsl.out
      rw [← hV] at hsl
      have F4 : Fr All w V := by
        rw [hV]
        exact F3.setNew (by dsimp only; omega) _
      have FG : Fr (fun m => m ≠ g) w3 V := by
        rw [hV]
        exact (Fr.refl _ w3).setCell (p := ⟨g, r, none⟩) (fun m hm => hm) _
      have P4 := (FG.block w.heap.size (blk_lt P3) hgw).trans P3
      have hzl : (xs.set r t).length ≤ 1000000 := by
        rw [List.length_set, HL.out]
        omega
      have Hx := Lib.hid hx
      clear hV p0 p1 p2 p3 p4 p5 p6 p7 p8 p9 pz P3 hc hfz hx b0 b1 Hsl
      go_wp2_with fail
      refine (read_call (h.move F4) hsl hzl).mono ?_
      rintro e w5 ⟨⟨y, p, er, hF, hR⟩, f5⟩
      have HF := Lib.hid hF
      clear hF
      rcases hR with ⟨rfl, oky, B0, m0, d0, B1, m1, d1, rfl, t0, t1⟩ | ⟨h9, te, ae, rfl⟩
      · have hsp := fromTo_spoilt (r := x) (x := y) (bs := xs.set r t) (k := r) (b := t) (p := p) (by rw [Hxs.out, HL.out]; exact hrL) (by
          rw [Hxs.out, Hb.out]
          intro e
          exact u8_xor_self b z hz0 (Ht.out.trans (Option.some.inj e).symm)) (by rw [Hxs.out]) HF.out
        obtain ⟨hyx, htk, hpl⟩ := hsp
        rw [List.length_set, HL.out] at hpl
        have hdne : decide (y = x) = false := decide_eq_false hyx
        have Htk := Lib.hid htk
        have Oky := Lib.hid oky
        have F6 := (F4.trans f5).alloc (.cells #[.int .i64 y.lsn, .int .i64 y.back, .int .i64 y.epoch, .int .i64 y.group, .int .i64 y.page, .int .i64 y.kind, .int .i64 y.slot, .slice B0 m0 d0, .slice B1 m1 d1, .bool y.last] 25)
        have F56 := f5.alloc (.cells #[.int .i64 y.lsn, .int .i64 y.back, .int .i64 y.epoch, .int .i64 y.group, .int .i64 y.page, .int .i64 y.kind, .int .i64 y.slot, .slice B0 m0 d0, .slice B1 m1 d1, .bool y.last] 25)
        have F66 := (Fr.refl All w5).alloc (.cells #[.int .i64 y.lsn, .int .i64 y.back, .int .i64 y.epoch, .int .i64 y.group, .int .i64 y.page, .int .i64 y.kind, .int .i64 y.slot, .slice B0 m0 d0, .slice B1 m1 d1, .bool y.last] 25)
        have Q6 := heap_alloc_new w5 (.cells #[.int .i64 y.lsn, .int .i64 y.back, .int .i64 y.epoch, .int .i64 y.group, .int .i64 y.page, .int .i64 y.kind, .int .i64 y.slot, .slice B0 m0 d0, .slice B1 m1 d1, .bool y.last] 25)
        obtain ⟨U, hU⟩ : ∃ U, w5.alloc (.cells #[.int .i64 y.lsn, .int .i64 y.back, .int .i64 y.epoch, .int .i64 y.group, .int .i64 y.page, .int .i64 y.kind, .int .i64 y.slot, .slice B0 m0 d0, .slice B1 m1 d1, .bool y.last] 25) = U := ⟨_, rfl⟩
        rw [hU] at F6 F66 F56 Q6
        have P6 := (F56.block _ (blk_lt P4) trivial).trans P4
        have hs6 := hsl.all F56
        clear hyx htk oky P4
        obtain ⟨q0, q1, q2, q3, q4, q5, q6, q7, q8, q9, qz⟩ := blk10 Q6
        go_wp2_with fail
        refine (redo_bytes (h.move F6) (t0.all F66) (t1.all F66) Oky.out).mono ?_
        rintro e w7 ⟨A7, c7, rfl, o7, f7⟩
        have F7 := F6.trans f7
        have P7 := (f7.block _ (blk_lt P6) trivial).trans P6
        have Q7 := (f7.block _ (blk_lt Q6) trivial).trans Q6
        obtain ⟨ys, hys⟩ : ∃ ys, redoBytes y = ys := ⟨_, rfl⟩
        have hylen := redoBytes_small Oky.out
        rw [hys] at o7 hylen ⊢
        have Hys := Lib.hid hys
        clear hys q0 q1 q2 q3 q4 q5 q6 q7 q8 q9 qz P6 Q6 hU
        obtain ⟨p0, p1, p2, p3, p4, p5, p6, p7, p8, p9, pz⟩ := blk10 P7
        obtain ⟨q0, q1, q2, q3, q4, q5, q6, q7, q8, q9, qz⟩ := blk10 Q7
        obtain ⟨_, _, _, he3, _, hcap, _⟩ := hs6.open_
        have hc3 := (Value.slice.inj he3).2.2
        have hn3 := (Value.slice.inj he3).2.1
        have b0 : (0 : Int) ≤ (p : Int) := by omega
        have b1 : (p : Int) ≤ (c3 : Int) := by omega
        have b2 : p ≤ c3 := by omega
        have ht := (hs6.take (s := p) (by omega)).all f7
        have hdt : decide (ys = (xs.set r t).take p) = true := decide_eq_true (by rw [Htk.out, Hys.out])
        have hys7 : ys.length ≤ 100000000000000 := by omega
        have S7 := o7.sl
        clear he3 hcap hc3 hn3 hs6 hsl o7
        go_wp2_with fail
        refine (redo_same (t0.all (F66.trans f7)) (t1.all (F66.trans f7)) (s0.all F7) (s1.all F7)).mono ?_
        rintro e w8 ⟨rfl, f8⟩
        go_wp2_with fail
        refine (same_bytes (S7.all f8) (ht.all f8) hys7).mono ?_
        rintro e w9 ⟨rfl, f9⟩
        go_wp2_with fail
        go_ret
        exact ⟨rfl, (F7.trans f8).trans f9⟩
      · go_wp2_with fail
        go_ret
        exact ⟨rfl, (F4.trans f5).alloc _⟩
end Go.Proofs.YtblogahililddaaDoor
