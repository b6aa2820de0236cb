/- The log's chain and SCL. -/
import Derived.Test.YteclgcnndjcmmaaDoorBs
import Derived.Test.YteclgcnndjcmmaaDoorMg
import Derived.IntWalk
namespace Go.Proofs.YteclgcnndjcmmaaDoor
open Go.RowKit Go.Maps

def elIx : El Int where
  R := fun _ _ v x => v = .int .i64 x
  move := fun h _ _ => h
  mono := fun h _ => h
def ixM (l : List Redo) (k : Nat) : Int → Option Int := fun a => (pickIx l a k).map fun j => (j : Int)
theorem ixM_zero (l : List Redo) : ixM l 0 = fun _ => none := rfl
theorem ixM_put {l : List Redo} {k : Nat} {x : Redo} (hx : l[k]? = some x) (h : pickIx l x.back k = none ∨ ∃ j q, pickIx l x.back k = some j ∧ l[j]? = some q ∧ x.epoch > q.epoch) : gput (ixM l k) x.back (k : Int) = ixM l (k + 1) := by
  funext a
  unfold gput ixM
  rw [pickIx, hx]
  dsimp only
  by_cases ha : a = x.back
  · subst ha
    rw [if_pos rfl, if_pos rfl]
    rcases h with h | ⟨j, q, h, hq, he⟩
    · rw [h]; rfl
    · rw [h]
      dsimp only
      rw [hq]
      dsimp only
      rw [if_pos he]; rfl
  · rw [if_neg ha, if_neg (fun e => ha e.symm)]
theorem ixM_keep {l : List Redo} {k j : Nat} {x q : Redo} (hx : l[k]? = some x) (h : pickIx l x.back k = some j) (hq : l[j]? = some q) (he : ¬ x.epoch > q.epoch) : ixM l k = ixM l (k + 1) := by
  funext a
  unfold ixM
  rw [pickIx, hx]
  dsimp only
  by_cases ha : x.back = a
  · subst ha
    rw [if_pos rfl, h]
    dsimp only
    rw [hq]
    dsimp only
    rw [if_neg he]
  · rw [if_neg ha]
theorem GMap.ix {P : Program} {K : TypeId} {S S' : Nat → Prop} {w : World} {b n : Nat} {m : Int → Option Int} (h : GMap elIx P K S w b m n) : GMap elIx P K S' w b m n := by
  obtain ⟨D, h1, h2, h3⟩ := h
  refine ⟨D, h1, h2, fun k hk => ?_⟩
  have h4 := h3 k hk
  cases hm : m k with
  | none => rw [hm] at h4; exact h4
  | some xs =>
    rw [hm] at h4
    exact h4
theorem zeroInt (w : World) : (zeroValue 3).run Tryd.prog w = .ok (.int .i64 0) w := by kernel_rfl

set_option maxRecDepth 100000 in
set_option maxHeartbeats 2000000 in
theorem chain_call {S : Nat → Prop} {w : World} {B : Nat} {lv sv : Value} {s : HSt} (h : Hg S w B lv sv s) : Calls Tryd.prog 38 #[.pointer (some ⟨B, 0, none⟩)] w fun e w' => ∃ v, e = .returned (.int .i64 v) ∧ Climb s.l 0 v ∧ Fr All w w' := by
  have hmm := @run_makeMap Tryd.prog
  obtain ⟨A, c, rfl⟩ := h.row.length
  have hfew := h.few
  have HR := Lib.hid h.ok.rise
  have HO := Lib.hid h.ok.valid
  have HS := Lib.hid h.row.sl
  have HB := Lib.hid h.blk
  generalize s.l = l at *
  obtain ⟨n, hn⟩ : ∃ n, l.length = n := ⟨_, rfl⟩
  rw [hn] at HS HB hfew
  have Hn := Lib.hid hn
  have M0 := Lib.hid (GMap.made (P := Tryd.prog) (K := 2) elIx w Nowhere)
  have F0 := (Fr.refl All w).alloc (.map #[] 0)
  obtain ⟨q0, q1, q2, q3, q4, q5, qz⟩ := blk6 ((F0.block B (blk_lt h.blk) trivial).trans HB.out)
  clear h hn
  go_enter Tryd.func38, Tryd.ntmps38
  go_wp2_with fail
  obtain ⟨M, hM⟩ : ∃ M, w.heap.size = M := ⟨_, rfl⟩
  rw [hM] at M0
  simp only [hM]
  have HM := Lib.hid hM
  clear q0 q1 q2 q3 q4 q5 qz hM hmm
  go_loopw [17] (fun i wr => ∃ (k cnt : Nat), k ≤ n ∧ cnt ≤ k ∧ i = .int .i64 k ∧ Hid (GMap elIx Tryd.prog 2 Nowhere wr M (ixM l k) cnt) ∧ Fr All w wr) (fun i _ => n - (Go.RowKit.intOf i).toNat)
  case atStart => exact ⟨0, 0, Nat.zero_le _, Nat.zero_le _, rfl, M0, F0⟩
  case round =>
    obtain ⟨k, cnt, hk, hcnt, rfl, HMap, HF⟩ := hrel
    by_cases hlt : k < n
    · obtain ⟨x, hx, hxm⟩ := get_of (l := l) (k := k) (by rw [Hn.out]; omega)
      have hv := HO.out x hxm
      obtain ⟨y1, y2, _, _, _, _, _, _, y3, y4, _⟩ := validIx_none hv
      have hin : In64 x.back := in64_of (by omega) (by omega)
      obtain ⟨b, o, X0, n0, c0, X1, n1, c1, rfl, g0, g1, g2, g3, g4, g5, g6, g7, g8, g9, t0, t1⟩ := redo_at (HS.out.all HF) hx
      have HX := Lib.hid hx
      have HIN := Lib.hid hin
      have b0 : (0 : Int) ≤ (k : Int) := by omega
      have b1 : (k : Int) < (n : Int) := by omega
      have F1 := (Fr.refl All wr).alloc (.cells #[.int .i64 x.lsn, .int .i64 x.back, .int .i64 x.epoch, .int .i64 x.group, .int .i64 x.page, .int .i64 x.kind, .int .i64 x.slot, .slice X0 n0 c0, .slice X1 n1 c1, .bool x.last] 36)
      have B1 := heap_alloc_new wr (.cells #[.int .i64 x.lsn, .int .i64 x.back, .int .i64 x.epoch, .int .i64 x.group, .int .i64 x.page, .int .i64 x.kind, .int .i64 x.slot, .slice X0 n0 c0, .slice X1 n1 c1, .bool x.last] 36)
      have BB := ((HF.trans F1).block B (blk_lt HB.out) trivial).trans HB.out
      have M1 := Lib.hid (HMap.out.all F1)
      clear hx hxm hv y1 y2 y3 y4 hin t0 t1
      cases hp : pickIx l x.back k with
      | none =>
        have hlk := M1.out.look_none Tryd.underlying2 Tryd.underlying105 zeroInt HIN.out (show ixM l k x.back = none by rw [ixM, hp]; rfl)
        have HP := Lib.hid hp
        clear hp
        go_upto_region 6 with (fail)
        clear hlk g0 g1 g2 g3 g4 g5 g6 g7 g8 g9
        go_quiet (fail)
        generalize hW2 : (wr.alloc _).drewN _ = W2
        have F2 : Fr All wr W2 := by rw [← hW2]; exact F1.drewN _
        have B2 : W2.heap[wr.heap.size]? = some (.cells #[.int .i64 x.lsn, .int .i64 x.back, .int .i64 x.epoch, .int .i64 x.group, .int .i64 x.page, .int .i64 x.kind, .int .i64 x.slot, .slice X0 n0 c0, .slice X1 n1 c1, .bool x.last] 36 (0, 0)) := by rw [← hW2]; exact B1
        clear hW2 F1 B1 BB M1
        obtain ⟨w3, hr3, m3, f3⟩ := (HMap.out.all F2).put Tryd.underlying2 Tryd.underlying105 (k := x.back) HIN.out (by omega) (v := .int .i64 (k : Int)) (x := (k : Int)) rfl (fun x hx => hx.elim)
        obtain ⟨p0, p1, p2, p3, p4, p5, p6, p7, p8, p9, pz⟩ := blk10 B2
        have M3 := Lib.hid m3
        have F3 : Fr All w w3 := by
          have h1 := HF.trans F2
          exact ⟨f3.os.trans h1.os, f3.tape.trans h1.tape, f3.output.trans h1.output, Nat.le_trans h1.size f3.size, fun b hb _ => (f3.block b (Nat.lt_of_lt_of_le hb h1.size) (by have := HM.out; omega)).trans (h1.block b hb trivial)⟩
        clear m3 f3
        go_wp2_with fail
        have M4 : Hid (GMap elIx Tryd.prog 2 Nowhere w3 M (ixM l (k + 1)) (if (ixM l k x.back).isSome then cnt else cnt + 1)) := Lib.hid (by rw [← ixM_put HX.out (.inl HP.out)]; exact M3.out)
        have hc4 : (if (ixM l k x.back).isSome then cnt else cnt + 1) ≤ k + 1 := by split <;> omega
        generalize (if (ixM l k x.back).isSome then cnt else cnt + 1) = c4 at *
        clear hr3 M3 p0 p1 p2 p3 p4 p5 p6 p7 p8 p9 pz B2 F2
        have H4 := Lib.hid hc4
        clear hc4
        go_roundw
        case rel => exact ⟨k + 1, c4, by omega, H4.out, by go_num, M4, F3⟩
        case measure => simp [Go.RowKit.intOf]; omega
      | some j =>
        have hpi := pick_is l x.back k (by rw [Hn.out]; omega)
        rw [hp] at hpi
        obtain ⟨hjk, q, hq, _⟩ := hpi
        have hlk := M1.out.look_some Tryd.underlying2 Tryd.underlying105 zeroInt HIN.out (x := (j : Int)) (show ixM l k x.back = some (j : Int) by rw [ixM, hp]; rfl)
        obtain ⟨v, hlk, hv⟩ := hlk
        have hv : v = .int .i64 (j : Int) := hv
        subst hv
        obtain ⟨b', o', Y0, m0, d0, Y1, m1, d1, hA, e0, e1, e2, _⟩ := redo_at (HS.out.all (HF.trans F1)) hq
        injection hA with hA
        injection hA with hA1 hA2 _
        subst hA1
        subst hA2
        have HQ := Lib.hid hq
        have j0 : (0 : Int) ≤ (j : Int) := by omega
        have j1 : (j : Int) < (n : Int) := by omega
        obtain ⟨qq0, qq1, qq2, qq3, qq4, qq5, qqz⟩ := blk6 BB
        have HP := Lib.hid hp
        clear hp hq
        cases hd : decide (x.epoch > q.epoch) with
        | true =>
          have HD := Lib.hid (of_decide_eq_true hd)
          go_upto_region 6 with (fail)
          clear hlk g0 g1 g2 g3 g4 g5 g6 g7 g8 g9
          obtain ⟨r0, r1, r2, r3, r4, r5, r6, r7, r8, r9, rz⟩ := blk10 B1
          go_quiet (fail)
          generalize hW2 : (wr.alloc _).drewN _ = W2
          have F2 : Fr All wr W2 := by rw [← hW2]; exact F1.drewN _
          have B2 : W2.heap[wr.heap.size]? = some (.cells #[.int .i64 x.lsn, .int .i64 x.back, .int .i64 x.epoch, .int .i64 x.group, .int .i64 x.page, .int .i64 x.kind, .int .i64 x.slot, .slice X0 n0 c0, .slice X1 n1 c1, .bool x.last] 36 (0, 0)) := by rw [← hW2]; exact B1
          clear hW2 F1 B1 BB M1 r0 r1 r2 r3 r4 r5 r6 r7 r8 r9 rz qq0 qq1 qq2 qq3 qq4 qq5 qqz e0 e1 e2
          obtain ⟨w3, hr3, m3, f3⟩ := (HMap.out.all F2).put Tryd.underlying2 Tryd.underlying105 (k := x.back) HIN.out (by omega) (v := .int .i64 (k : Int)) (x := (k : Int)) rfl (fun x hx => hx.elim)
          obtain ⟨p0, p1, p2, p3, p4, p5, p6, p7, p8, p9, pz⟩ := blk10 B2
          have M3 := Lib.hid m3
          have F3 : Fr All w w3 := by
            have h1 := HF.trans F2
            exact ⟨f3.os.trans h1.os, f3.tape.trans h1.tape, f3.output.trans h1.output, Nat.le_trans h1.size f3.size, fun b hb _ => (f3.block b (Nat.lt_of_lt_of_le hb h1.size) (by have := HM.out; omega)).trans (h1.block b hb trivial)⟩
          clear m3 f3 hd
          go_wp2_with fail
          have M4 : Hid (GMap elIx Tryd.prog 2 Nowhere w3 M (ixM l (k + 1)) (if (ixM l k x.back).isSome then cnt else cnt + 1)) := Lib.hid (by rw [← ixM_put HX.out (.inr ⟨j, q, HP.out, HQ.out, HD.out⟩)]; exact M3.out)
          have hc4 : (if (ixM l k x.back).isSome then cnt else cnt + 1) ≤ k + 1 := by split <;> omega
          generalize (if (ixM l k x.back).isSome then cnt else cnt + 1) = c4 at *
          clear hr3 M3 p0 p1 p2 p3 p4 p5 p6 p7 p8 p9 pz B2 F2
          have H4 := Lib.hid hc4
          clear hc4
          go_roundw
          case rel => exact ⟨k + 1, c4, by omega, H4.out, by go_num, M4, F3⟩
          case measure => simp [Go.RowKit.intOf]; omega
        | false =>
          have HD := Lib.hid (of_decide_eq_false hd)
          go_upto_region 6 with (fail)
          clear hlk g0 g1 g2 g3 g4 g5 g6 g7 g8 g9
          obtain ⟨r0, r1, r2, r3, r4, r5, r6, r7, r8, r9, rz⟩ := blk10 B1
          go_quiet (fail)
          generalize hW2 : (wr.alloc _).drewN _ = W2
          have F2 : Fr All wr W2 := by rw [← hW2]; exact F1.drewN _
          clear hW2 F1 B1 BB M1 r0 r1 r2 r3 r4 r5 r6 r7 r8 r9 rz qq0 qq1 qq2 qq3 qq4 qq5 qqz e0 e1 e2 hd
          go_wp2_with fail
          have M4 : Hid (GMap elIx Tryd.prog 2 Nowhere W2 M (ixM l (k + 1)) cnt) := Lib.hid (by rw [← ixM_keep HX.out HP.out HQ.out HD.out]; exact HMap.out.all F2)
          go_roundw
          case rel => exact ⟨k + 1, cnt, by omega, by omega, by go_num, M4, HF.trans F2⟩
          case measure => simp [Go.RowKit.intOf]; omega
    · obtain rfl : k = n := by omega
      obtain ⟨W, hW⟩ : ∃ W, W = wr := ⟨_, rfl⟩
      subst hW
      have HFF := Lib.hid HF
      have BB := (HF.block B (blk_lt HB.out) trivial).trans HB.out
      obtain ⟨q0, q1, q2, q3, q4, q5, qz⟩ := blk6 BB
      have HS2 := Lib.hid (HS.out.all HF)
      clear HF BB
      go_wp2_with fail
      go_loopw [8] (fun a wr => ∃ t : Int, 0 ≤ t ∧ t ≤ 1099511627776 ∧ a = .int .i64 t ∧ wr = W ∧ Hid (∀ v, Climb l t v → Climb l 0 v)) (fun a _ => (1099511627776 - Go.RowKit.intOf a).toNat)
      case atStart => exact ⟨0, by omega, by omega, rfl, rfl, (fun v hv => hv : ∀ v, Climb l 0 v → Climb l 0 v)⟩
      case round =>
        obtain ⟨t, ht0, ht1, rfl, rfl, HC⟩ := hrel
        have hin : In64 t := in64_of (by omega) (by omega)
        cases hp : pickIx l t k with
        | none =>
          have hlk := HMap.out.look_none Tryd.underlying2 Tryd.underlying105 zeroInt hin (show ixM l k t = none by rw [ixM, hp]; rfl)
          have HP := Lib.hid hp
          clear hp
          go_wp2_with fail
          go_ret
          exact ⟨t, rfl, HC.out t (.stop (pick_none (by rw [Hn.out]; exact HP.out))), HFF.out⟩
        | some j =>
          have hpi := pick_is l t k (by rw [Hn.out]; omega)
          rw [hp] at hpi
          obtain ⟨hjk, q, hq, hqb, _⟩ := hpi
          have hqv := validIx_none (HO.out q (List.mem_of_getElem? hq))
          have hq0 : t < q.lsn := by omega
          have hq1 : q.lsn ≤ 1099511627776 := by omega
          obtain ⟨v, hlk, hv⟩ := HMap.out.look_some Tryd.underlying2 Tryd.underlying105 zeroInt hin (x := (j : Int)) (show ixM l k t = some (j : Int) by rw [ixM, hp]; rfl)
          have hv : v = .int .i64 (j : Int) := hv
          subst hv
          obtain ⟨b, o, Y0, m0, d0, Y1, m1, d1, rfl, e0, e1, e2, _⟩ := redo_at HS2.out hq
          have HQ := Lib.hid hq
          have HP := Lib.hid hp
          have j0 : (0 : Int) ≤ (j : Int) := by omega
          have j1 : (j : Int) < (k : Int) := by omega
          clear hp hq hqv hqb
          go_wp2_with fail
          go_roundw
          case rel => exact ⟨q.lsn, by omega, hq1, rfl, trivial, (fun v hv => HC.out v (.step (pick_ix (by rw [Hn.out]; exact HP.out) HQ.out) hv) : ∀ v, Climb l q.lsn v → Climb l 0 v)⟩
          case measure => simp [Go.RowKit.intOf]; omega

set_option maxRecDepth 100000 in
set_option maxHeartbeats 1000000 in
theorem scl_call {S : Nat → Prop} {w : World} {B : Nat} {lv sv : Value} {s : HSt} (h : Hg S w B lv sv s) : Calls Tryd.prog 21 #[.pointer (some ⟨B, 0, none⟩)] w fun e w' => ∃ v, e = .returned (.int .i64 v) ∧ Climb s.l 0 v ∧ Hg S w' B lv sv (s.knows v) ∧ Fr (fun b => b ≠ B) w w' := by
  obtain ⟨q0, q1, q2, q3, q4, q5, qz⟩ := blk6 h.blk
  obtain ⟨A, c, hlv⟩ := h.row.length
  have H := Lib.hid h
  cases hk : s.known with
  | true =>
    rw [hk] at q5
    have hs : s.knows s.scl = s := by
      obtain ⟨a, b, c, d, e, f⟩ := s
      simp only at hk
      subst hk
      rfl
    have HC := Lib.hid (h.ok.scl hk)
    have HS := Lib.hid hs
    clear h hk hs hlv
    go_enter Tryd.func21, Tryd.ntmps21
    go_wp2_with fail
    go_ret
    exact ⟨s.scl, rfl, HC.out, by rw [HS.out]; exact H.out, Fr.refl _ _⟩
  | false =>
    rw [hk] at q5
    have HK := Lib.hid hk
    clear h hk hlv
    go_enter Tryd.func21, Tryd.ntmps21
    go_wp2_with fail
    refine (chain_call H.out).mono ?_
    rintro e w2 ⟨v, rfl, hc, f2⟩
    have H2 := H.out.all f2
    have B2 := H2.blk
    have HB := Lib.hid B2
    have HH := Lib.hid H2
    have HC := Lib.hid hc
    clear q0 q1 q2 q3 q4 q5 qz hc H2
    obtain ⟨q0, q1, q2, q3, q4, q5, qz⟩ := blk6 B2
    clear B2
    go_wp2_with fail
    go_ret
    have fS : Fr (fun b => b ≠ B) w2 ((w2.setCell ⟨B, 4, none⟩ (.int .i64 v)).setCell ⟨B, 5, none⟩ (.bool true)) := by
      repeat (first | (with_reducible exact Fr.refl _ _) | with_reducible refine Fr.setCell ?_ (fun m hm => by exact hm) _)
    exact ⟨v, rfl, HC.out, ⟨heap_setCell_same _ B 5 _ _ _ (heap_setCell_same _ B 4 _ _ _ HB.out), HH.out.row.move fS (fun b hb _ => H.out.nB b hb) (fun k hk e => H.out.rB (by rw [hk, e])), HH.out.sp.move' fS (fun b hb _ => H.out.nB b hb.1), H.out.nB, H.out.rB, H.out.ok.knows HC.out⟩, (f2.mono fun _ _ => trivial).trans fS⟩
end Go.Proofs.YteclgcnndjcmmaaDoor
