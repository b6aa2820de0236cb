/- The log's Cut at spans that are right; Add of a record that is dead. -/
import Derived.Test.YteclgcnndjcmmaaDoorHClone
namespace Go.Proofs.YteclgcnndjcmmaaDoor
open Go.RowKit

/-- Spans that are right. -/
structure SpansOk (l : List Span) : Prop where
  few : l.length ≤ 64
  each : ∀ s ∈ l, 1 ≤ s.epoch ∧ s.epoch ≤ 1073741824 ∧ 0 ≤ s.lo ∧ s.lo < s.hi ∧ s.hi ≤ 1099511627776
  rise : ∀ i a b, l[i]? = some a → l[i + 1]? = some b → a.epoch < b.epoch ∧ a.hi < b.hi
def HSt.cut (s : HSt) (xs : List Span) : HSt := { s with l := s.l.filter fun r => !deadS xs r.lsn r.epoch, spans := xs, cuts := wrap64 (s.cuts + 1), known := false }
theorem HOk.cut {s : HSt} (h : HOk s) {xs : List Span} (hx : xs.length ≤ 64) : HOk (s.cut xs) :=
  ⟨h.rise.sublist List.filter_sublist, fun r hr => h.valid r (List.mem_filter.1 hr).1, fun hk => by simp [HSt.cut] at hk, Nat.le_trans (List.length_filter_le _ _) h.few, hx⟩

set_option maxRecDepth 100000 in
set_option maxHeartbeats 2000000 in
theorem spans_ok {S : Nat → Prop} {w : World} {A : Option Addr} {n c : Nat} {xs : List Span} (h : Sl kSpan S w (.slice A n c) xs) (ok : SpansOk xs) :
    Calls Tryd.prog 61 #[.slice A n c] w fun e w' => e = .returned .nilIface ∧ Fr All w w' := by
  have en := h.len
  have hn : n ≤ 64 := by rw [← en]; exact ok.few
  have g0 : decide ((n : Int) > 64) = false := decide_eq_false (by omega)
  have En := Lib.hid en
  have OK := Lib.hid ok
  clear en ok
  go_enter Tryd.func61, Tryd.ntmps61
  go_wp2_with fail
  go_loopw [12] (fun i wr => ∃ k : Nat, k ≤ n ∧ i = .int .i64 k ∧ Fr All w wr) (fun i _ => n - (Go.RowKit.intOf i).toNat)
  case atStart => exact ⟨0, Nat.zero_le _, rfl, Fr.refl _ _⟩
  case round =>
    obtain ⟨k, hk, rfl, HF⟩ := hrel
    by_cases hlt : k < n
    · obtain ⟨s, hs, hsm⟩ := get_of (l := xs) (k := k) (by rw [En.out]; omega)
      obtain ⟨b, o, rfl, c0, c1, c2⟩ := span_at (h.all HF) hs
      obtain ⟨y1, y2, y3, y4, y5⟩ := OK.out.each s hsm
      have d1 : decide (s.epoch < 1) = false := decide_eq_false (by omega)
      have d2 : decide (s.epoch > 1073741824) = false := decide_eq_false (by omega)
      have d3 : decide (s.lo < 0) = false := decide_eq_false (by omega)
      have d4 : decide (s.hi ≤ s.lo) = false := decide_eq_false (by omega)
      have d5 : decide (s.hi > 1099511627776) = false := decide_eq_false (by omega)
      have b0 : (0 : Int) ≤ (k : Int) := by omega
      have b1 : (k : Int) < (n : Int) := by omega
      have F1 := (Fr.refl All wr).alloc (.cells #[.int .i64 s.epoch, .int .i64 s.lo, .int .i64 s.hi] 81)
      have B1 := heap_alloc_new wr (.cells #[.int .i64 s.epoch, .int .i64 s.lo, .int .i64 s.hi] 81)
      obtain ⟨p0, p1, p2, pz⟩ := blk3 B1
      have HS := Lib.hid hs
      clear hs hsm y1 y2 y3 y4 y5
      rcases Nat.eq_zero_or_pos k with h0 | h0
      · have e1 : decide (0 < k) = false := decide_eq_false (by omega)
        have e2 : decide ((k : Int) > 0) = false := decide_eq_false (by omega)
        clear h0
        go_upto_region 9 with (fail)
        clear p0 p1 p2 pz c0 c1 c2
        obtain ⟨p0, p1, p2, pz⟩ := blk3 B1
        go_quiet (fail)
        generalize hW2 : (wr.alloc _).drewN _ = W2
        have F2 : Fr All wr W2 := by rw [← hW2]; exact F1.drewN _
        clear hW2 p0 p1 p2 pz B1 F1
        go_wp2_with fail
        go_roundw
        case rel => exact ⟨k + 1, by omega, by go_num, HF.trans F2⟩
        case measure => simp [Go.RowKit.intOf]; omega
      · obtain ⟨q, hq, hqi⟩ : ∃ q : Nat, k = q + 1 ∧ (k : Int) - 1 = (q : Int) := ⟨k - 1, by omega, by omega⟩
        obtain ⟨s', hs', _⟩ := get_of (l := xs) (k := q) (by rw [En.out]; omega)
        obtain ⟨b', o', hA, e0, e1, e2⟩ := span_at (h.all (HF.trans F1)) hs'
        have hbo : b = b' ∧ o = o' := by
          injection hA with h1
          injection h1 with h1 h2
          exact ⟨h1, h2⟩
        clear hA
        obtain ⟨rfl, rfl⟩ := hbo
        have hri := OK.out.rise q s' s hs' (by rw [← hq]; exact HS.out)
        have d6 : decide (s.epoch ≤ s'.epoch) = false := decide_eq_false (by omega)
        have d7 : decide (s.hi ≤ s'.hi) = false := decide_eq_false (by omega)
        have f1 : decide (0 < k) = true := decide_eq_true h0
        have f2 : decide ((k : Int) > 0) = true := decide_eq_true (by omega)
        have q0 : (0 : Int) ≤ (q : Int) := by omega
        have q1 : (q : Int) < (n : Int) := by omega
        have hw : IntKind.i64.wrap ((k : Int) - 1) = (q : Int) := by rw [IntKind.wrap_i64]; omega
        clear hri h0 hq hs'
        go_upto_region 9 with (fail)
        clear p0 p1 p2 pz c0 c1 c2
        obtain ⟨p0, p1, p2, pz⟩ := blk3 B1
        go_quiet (fail)
        generalize hW2 : (wr.alloc _).drewN _ = W2
        have F2 : Fr All wr W2 := by rw [← hW2]; exact F1.drewN _
        clear hW2 p0 p1 p2 pz B1 F1 e0 e1 e2 hqi
        go_wp2_with fail
        go_roundw
        case rel => exact ⟨k + 1, by omega, by go_num, HF.trans F2⟩
        case measure => simp [Go.RowKit.intOf]; omega
    · obtain rfl : n = k := by omega
      go_wp2_with fail
      go_ret
      exact ⟨rfl, HF⟩

/-- The record at a place of a row of one's own; what it leads to is not the row. -/
theorem own_redo_at {e : TypeId} {base : Nat} {S : Nat → Prop} {w : World} {A : Option Addr} {n c : Nat} {xs : List Redo} (h : Own kRedo e base S w (.slice A n c) xs) {k : Nat} {x : Redo} (hi : xs[k]? = some x) :
    ∃ b A0 n0 c0 A1 n1 c1, A = some ⟨b, 0, none⟩ ∧ w.cell? ⟨b, k * 10, none⟩ = some (.int .i64 x.lsn) ∧ w.cell? ⟨b, k * 10 + 1, none⟩ = some (.int .i64 x.back) ∧ w.cell? ⟨b, k * 10 + 2, none⟩ = some (.int .i64 x.epoch) ∧ w.cell? ⟨b, k * 10 + 3, none⟩ = some (.int .i64 x.group) ∧ w.cell? ⟨b, k * 10 + 4, none⟩ = some (.int .i64 x.page) ∧ w.cell? ⟨b, k * 10 + 5, none⟩ = some (.int .i64 x.kind) ∧ w.cell? ⟨b, k * 10 + 6, none⟩ = some (.int .i64 x.slot) ∧
      w.cell? ⟨b, k * 10 + 7, none⟩ = some (.slice A0 n0 c0) ∧ w.cell? ⟨b, k * 10 + 8, none⟩ = some (.slice A1 n1 c1) ∧ w.cell? ⟨b, k * 10 + 9, none⟩ = some (.bool x.last) ∧ Sl kByte (fun b => S b ∧ some b ≠ (Value.slice A n c).ownBlock) w (.slice A0 n0 c0) x.key ∧ Sl kByte (fun b => S b ∧ some b ≠ (Value.slice A n c).ownBlock) w (.slice A1 n1 c1) x.val := by
  have hk := (List.getElem?_eq_some_iff.1 hi).1
  obtain ⟨cs, ho, hr⟩ := h
  rcases ho.2 with ⟨he, h0⟩ | ⟨g, cap, cur, he, hb, hg, hn, hcm, hcs, ht⟩
  · omega
  · injection he with h1 h2 h3
    subst h1
    subst h3
    obtain ⟨el, hK, hc⟩ := hr.get hi
    obtain ⟨v0, v1, rfl, k0, k1⟩ := kRedo_open hK
    obtain ⟨A0, n0, c0, rfl, _⟩ := k0.open_
    obtain ⟨A1, n1, c1, rfl, _⟩ := k1.open_
    have hcell : ∀ j u, ([.int .i64 x.lsn, .int .i64 x.back, .int .i64 x.epoch, .int .i64 x.group, .int .i64 x.page, .int .i64 x.kind, .int .i64 x.slot, .slice A0 n0 c0, .slice A1 n1 c1, .bool x.last] : List Value)[j]? = some u → w.cell? ⟨g, k * 10 + j, none⟩ = some u := fun j u hu => by
      have h1 := ho.cells (g := g) rfl _ _ (hc j u hu)
      rwa [addr_lit, Nat.zero_add] at h1
    exact ⟨g, A0, n0, c0, A1, n1, c1, rfl, hcell 0 _ rfl, hcell 1 _ rfl, hcell 2 _ rfl, hcell 3 _ rfl, hcell 4 _ rfl, hcell 5 _ rfl, hcell 6 _ rfl, hcell 7 _ rfl, hcell 8 _ rfl, hcell 9 _ rfl, k0, k1⟩

def keepL (xs : List Span) (l : List Redo) : List Redo := l.filter fun r => !deadS xs r.lsn r.epoch
theorem keepL_snoc (xs : List Span) (l : List Redo) (x : Redo) : keepL xs (l ++ [x]) = keepL xs l ++ (if !deadS xs x.lsn x.epoch then [x] else []) := by
  unfold keepL
  rw [List.filter_append]
  congr 1
  by_cases h : (!deadS xs x.lsn x.epoch) = true
  · rw [if_pos h, List.filter_cons, if_pos h]; rfl
  · rw [if_neg h, List.filter_cons, if_neg h]; rfl
theorem keepL_len (xs : List Span) (l : List Redo) : (keepL xs l).length ≤ l.length := List.length_filter_le _ _
set_option maxRecDepth 100000 in
set_option maxHeartbeats 4000000 in
theorem cut_ok {S T : Nat → Prop} {w : World} {B : Nat} {lv sv : Value} {s : HSt} {PA : Option Addr} {pn pc : Nat} {xs : List Span} (h : Hg S w B lv sv s) (k : Sl kSpan T w (.slice PA pn pc) xs) (ok : SpansOk xs) :
    Calls Tryd.prog 42 #[.pointer (some ⟨B, 0, none⟩), .slice PA pn pc] w fun e w' =>
      ∃ lv' sv', e = .returned (.tuple #[.int .i64 ((s.l.length : Int) - ((s.cut xs).l.length : Int)), .nilIface]) ∧ Hg (fun b => S b ∨ w.heap.size ≤ b) w' B lv' sv' (s.cut xs) ∧ (∀ j, lv'.ownBlock = some j → w.heap.size ≤ j) ∧ Fr (fun b => b ≠ B) w w' := by
  have en := k.len
  obtain ⟨A, c, rfl⟩ := h.row.length
  obtain ⟨n, hn⟩ : ∃ n, s.l.length = n := ⟨_, rfl⟩
  have hfew := h.few
  have H := Lib.hid h
  have OK := Lib.hid ok
  have HK := Lib.hid k
  have Hn := Lib.hid hn
  have En := Lib.hid en
  rw [hn] at hfew
  clear h ok k hn en
  go_enter Tryd.func42, Tryd.ntmps42
  go_wp2_with fail
  refine (spans_ok HK.out OK.out).mono ?_
  rintro e w2 ⟨rfl, f2⟩
  go_wp2_with fail
  refine (clone_spans (HK.out.all f2) (by have := OK.out.few; omega)).mono ?_
  rintro e w3 ⟨CA, cc, rfl, o3, f3⟩
  have F3 := f2.trans f3
  have H3 := Lib.hid (H.out.all F3)
  have HB3 := Lib.hid H3.out.blk
  obtain ⟨q0, q1, q2, q3, q4, q5, qz⟩ := blk6 H3.out.blk
  have O3 := Lib.hid o3
  simp only [En.out]
  go_upto_region 5 with (fail)
  have hlvw : ∀ j, (Value.slice A s.l.length c).ownBlock = some j → j < w.heap.size := fun j hj => (own_lt H.out.row j hj).2
  have hlB := H.out.lt
  have z2 := f2.size
  have fB : Fr (fun b => b ≠ B) w3 (w3.setCell ⟨B, 2, none⟩ (.slice CA pn cc)) := Fr.setCell (p := ⟨B, 2, none⟩) (Fr.refl _ w3) (fun b hb => hb) _
  have fWB : Fr (fun b => b ≠ B) w (w3.setCell ⟨B, 2, none⟩ (.slice CA pn cc)) := (F3.mono fun _ _ => trivial).trans fB
  have o3' := O3.out
  rw [En.out] at o3'
  have hsp4 : Sl kSpan (fun b => (S b ∨ w.heap.size ≤ b) ∧ some b ≠ (Value.slice A n c).ownBlock) (w3.setCell ⟨B, 2, none⟩ (.slice CA pn cc)) (.slice CA pn cc) xs :=
    ((o3'.sl.mono (T := fun b => (((S b ∨ w.heap.size ≤ b) ∧ some b ≠ (Value.slice A n c).ownBlock)) ∧ b ≠ B) fun b hb _ => by
      rcases hb with hb | hb
      · exact hb.elim
      · have h1 := (own_lt o3' b hb.symm).1
        exact ⟨⟨.inr (by omega), fun e => by have := hlvw b (by rw [Hn.out]; exact e.symm); omega⟩, by omega⟩).move' fB fun b hb _ => hb.2).mono fun b hb _ => hb.1
  have hrow4 : Own kRedo 36 0 (fun b => S b ∧ b < w.heap.size) (w3.setCell ⟨B, 2, none⟩ (.slice CA pn cc)) (.slice A n c) s.l := by
    rw [← Hn.out]
    exact (H.out.row.mono fun b hb hl => ⟨hb, hl⟩).move fWB (fun b hb _ => H.out.nB b hb.1) fun j hj e => H.out.rB (by rw [hj, e])
  have hblk4 : (w3.setCell ⟨B, 2, none⟩ (.slice CA pn cc)).heap[B]? = some (.cells #[.int .i64 s.group, .slice A n c, .slice CA pn cc, .int .i64 s.cuts, .int .i64 s.scl, .bool s.known] 77 (0, 0)) := by
    have h0 : (w3.setCell ⟨B, 2, none⟩ (.slice CA pn cc)).heap[B]? = some (.cells #[.int .i64 s.group, .slice A s.l.length c, .slice CA pn cc, .int .i64 s.cuts, .int .i64 s.scl, .bool s.known] 77 (0, 0)) := heap_setCell_same _ B 2 _ _ _ HB3.out
    rw [Hn.out] at h0
    exact h0
  generalize hW4 : w3.setCell ⟨B, 2, none⟩ (.slice CA pn cc) = W4 at *
  have HSP := Lib.hid hsp4
  have HROW := Lib.hid hrow4
  have HBLK := Lib.hid hblk4
  have HWB := Lib.hid fWB
  have HLV := Lib.hid hlvw
  have Z4 := Lib.hid fWB.size
  clear hsp4 hrow4 hblk4 fWB fB o3' q0 q1 q2 q3 q4 q5 qz hW4 hlvw z2 F3 f2 f3 o3
  obtain ⟨q0, q1, q2, q3, q4, q5, qz⟩ := blk6 HBLK.out
  go_wp2_with fail
  clear q0 q1 q2 q3 q4 q5 qz
  go_loopw [8, 31] (fun v i wr => ∃ k : Nat, k ≤ n ∧ i = .int .i64 k ∧ Hid (Own kRedo 36 W4.heap.size (fun b => S b ∧ b < w.heap.size) wr v (keepL xs (s.l.take k))) ∧ Fr All W4 wr) (fun _ i _ => n - (Go.RowKit.intOf i).toNat)
  case atStart => exact ⟨0, Nat.zero_le _, rfl, Lib.hid (Own.nil_ _ _ _ _ _), Fr.refl _ _⟩
  case round =>
    obtain ⟨k, hk, rfl, HO, HF⟩ := hrel
    by_cases hlt : k < n
    · obtain ⟨x, hx, hxm⟩ := get_of (l := s.l) (k := k) (by rw [Hn.out]; omega)
      obtain ⟨b, X0, n0, c0, X1, n1, c1, hA, g0, g1, g2, g3, g4, g5, g6, g7, g8, g9, t0, t1⟩ := own_redo_at (HROW.out.all HF) hx
      have HA := Lib.hid hA
      subst hA
      have HX := Lib.hid hx
      have T0 := Lib.hid t0
      have T1 := Lib.hid t1
      have b0 : (0 : Int) ≤ (k : Int) := by omega
      have b1 : (k : Int) < (n : Int) := by omega
      have z0 : ∀ j, (0 + (k * 10 + j) : Nat) = k * 10 + j := fun j => Nat.zero_add _
      have F1 := (Fr.refl All wr).alloc (.cells #[.int .i64 x.lsn, .int .i64 x.back, .int .i64 x.epoch, .int .i64 x.group, .int .i64 x.page, .int .i64 x.kind, .int .i64 x.slot, .slice X0 n0 c0, .slice X1 n1 c1, .bool x.last] 36)
      have B1 := heap_alloc_new wr (.cells #[.int .i64 x.lsn, .int .i64 x.back, .int .i64 x.epoch, .int .i64 x.group, .int .i64 x.page, .int .i64 x.kind, .int .i64 x.slot, .slice X0 n0 c0, .slice X1 n1 c1, .bool x.last] 36)
      have BB := ((HF.trans F1).block B (blk_lt HBLK.out) trivial).trans HBLK.out
      have HSN := Lib.hid (keepL_snoc xs (s.l.take k) x)
      clear hx hxm t0 t1 z0
      go_upto_region 10 with (fail)
      refine wp_name ?_
      intro W hW
      rw [← hW] at F1 B1 BB
      clear hW g0 g1 g2 g3 g4 g5 g6 g7 g8 g9
      obtain ⟨p0, p1, p2, p3, p4, p5, p6, p7, p8, p9, pz⟩ := blk10 B1
      obtain ⟨q0, q1, q2, q3, q4, q5, qz⟩ := blk6 BB
      go_region_held3 (fun w' => w'.cell? ⟨B, 2, none⟩ = some (.slice CA pn cc) ∧ w'.cell? ⟨wr.heap.size, 0, none⟩ = some (.int .i64 x.lsn) ∧ w'.cell? ⟨wr.heap.size, 2, none⟩ = some (.int .i64 x.epoch))
        (first | go_keep | (go_split_ands; refine ⟨?_, ?_, ?_⟩ <;> exact Fr.cell (by assumption) trivial (by assumption)))
        (first
          | (go_at_call 51; refine (dead_call (HSP.out.all (HF.trans F1).drew) (by have := OK.out.few; omega) _ _).mono ?_; rintro e w5 ⟨rfl, f5⟩))
      have F5 : Fr All wr w5 := F1.drew.trans f5
      have f15 : Fr All W w5 := (Fr.refl All W).drew.trans f5
      have B5 := (f15.block _ (blk_lt B1) trivial).trans B1
      clear p0 p1 p2 p3 p4 p5 p6 p7 p8 p9 pz q0 q1 q2 q3 q4 q5 qz B1 BB F1 f5
      cases hdd : deadS xs x.lsn x.epoch with
      | true =>
        have HDD := Lib.hid hdd
        clear hdd B5 f15
        go_wp2_with fail
        have HO2 : Hid (Own kRedo 36 W4.heap.size (fun b => S b ∧ b < w.heap.size) w5 u8 (keepL xs (s.l.take (k + 1)))) := Lib.hid (by
          rw [take_snoc HX.out, HSN.out, HDD.out]
          simp only [Bool.not_true, Bool.false_eq_true, if_false, List.append_nil]
          exact HO.out.all F5)
        have FF := HF.trans F5
        clear F5
        go_roundw
        case rel => exact ⟨k + 1, by omega, by go_num, HO2, FF⟩
        case measure => simp [Go.RowKit.intOf]; omega
      | false =>
        have HDD := Lib.hid hdd
        obtain ⟨p0, p1, p2, p3, p4, p5, p6, p7, p8, p9, pz⟩ := blk10 B5
        have FB := F5.alloc (.cells #[.int .i64 x.lsn, .int .i64 x.back, .int .i64 x.epoch, .int .i64 x.group, .int .i64 x.page, .int .i64 x.kind, .int .i64 x.slot, .slice X0 n0 c0, .slice X1 n1 c1, .bool x.last] 36)
        have HO3 := HO.out.all FB
        have hY0 := Src.box (kRedo_mk (T0.out.all F5) (T1.out.all F5)) 36 1
        have hne : ∀ q, ((S q ∧ q < w.heap.size) ∧ some q ≠ (Value.slice (some ⟨b, 0, none⟩) n c).ownBlock) → q < (w5.alloc (.cells #[.int .i64 x.lsn, .int .i64 x.back, .int .i64 x.epoch, .int .i64 x.group, .int .i64 x.page, .int .i64 x.kind, .int .i64 x.slot, .slice X0 n0 c0, .slice X1 n1 c1, .bool x.last] 36)).heap.size → (S q ∧ q < w.heap.size) ∧ some q ≠ u8.ownBlock := fun q hq _ => ⟨hq.1, fun e => by
          have h1 := (own_lt HO.out q e.symm).1
          have h2 := Z4.out
          omega⟩
        have hgl := keepL_len xs (s.l.take k)
        have hl6 : ((keepL xs (s.l.take k)).length + [x].length) * 112 ≤ 140737488355328 := by
          rw [List.length_take] at hgl
          simp only [List.length_cons, List.length_nil]
          omega
        have hb6 : W4.heap.size ≤ (w5.alloc (.cells #[.int .i64 x.lsn, .int .i64 x.back, .int .i64 x.epoch, .int .i64 x.group, .int .i64 x.page, .int .i64 x.kind, .int .i64 x.slot, .slice X0 n0 c0, .slice X1 n1 c1, .bool x.last] 36)).heap.size := (HF.trans FB).size
        clear hgl hdd B5 f15 F5
        go_wp2_with (at_builtin; refine wpList_app rfl rfl Tryd.underlying54 infoRedo rfl (by decide) HO3 hY0 rfl rfl hne hl6 hb6 ?_; intro v7 w7 o7 f7 h7)
        have F7 : Fr All W4 w7 := (HF.trans FB).row f7.grown fun m hm => (own_lt HO3 m hm).1
        have HO2 : Hid (Own kRedo 36 W4.heap.size (fun b => S b ∧ b < w.heap.size) w7 v7 (keepL xs (s.l.take (k + 1)))) := Lib.hid (by
          rw [take_snoc HX.out, HSN.out, HDD.out]
          exact o7)
        clear o7 f7 h7 HO3 hY0 hl6 hb6 hne FB p0 p1 p2 p3 p4 p5 p6 p7 p8 p9 pz
        go_roundw
        case rel => exact ⟨k + 1, by omega, by go_num, HO2, F7⟩
        case measure => simp [Go.RowKit.intOf]; omega
    · obtain rfl : n = k := by omega
      have ho : Own kRedo 36 W4.heap.size (fun b => S b ∧ b < w.heap.size) wr u8 (keepL xs s.l) := by
        have := HO.out
        rwa [List.take_of_length_le (by rw [Hn.out]; exact Nat.le_refl _)] at this
      obtain ⟨GA, gc, hgv⟩ := ho.length
      have hgl := keepL_len xs s.l
      obtain ⟨gn, hgn⟩ : ∃ gn, (keepL xs s.l).length = gn := ⟨_, rfl⟩
      rw [hgn] at hgv hgl
      subst hgv
      have hgn2 : gn ≤ n := by have := Hn.out; omega
      have HGN := Lib.hid hgn
      have HOO := Lib.hid ho
      have HB5 := Lib.hid ((HF.block B (blk_lt HBLK.out) trivial).trans HBLK.out)
      have HFF := Lib.hid HF
      obtain ⟨q0, q1, q2, q3, q4, q5, qz⟩ := blk6 HB5.out
      clear ho hgn hgl HF
      go_wp2_with fail
      go_ret2
      have hcut : (s.cut xs).l = keepL xs s.l := rfl
      have hlt0 := own_lt HOO.out
      have z4 := Z4.out
      have hnB : (Value.slice GA gn gc).ownBlock ≠ some B := fun e => by have := (hlt0 B e).1; have := H.out.lt; omega
      have fS : Fr (fun b => b ≠ B) wr (((wr.setCell ⟨B, 1, none⟩ (.slice GA gn gc)).setCell ⟨B, 5, none⟩ (.bool false)).setCell ⟨B, 3, none⟩ (.int .i64 (wrap64 (s.cuts + 1)))) := by
        repeat (first | (with_reducible exact Fr.refl _ _) | with_reducible refine Fr.setCell ?_ (fun m hm => by exact hm) _)
      have fA := HWB.out.trans ((HFF.out.mono fun _ _ => trivial).trans fS)
      refine ⟨.slice GA gn gc, .slice CA pn cc, ?_, ⟨heap_setCell_same _ B 3 _ _ _ (heap_setCell_same _ B 5 _ _ _ (heap_setCell_same _ B 1 _ _ _ HB5.out)), ?_, ?_, ?_, hnB, H.out.ok.cut OK.out.few⟩, fun j hj => by have := (hlt0 j hj).1; omega, fA⟩
      · rw [hcut, HGN.out, Hn.out]
        rfl
      · refine ((HOO.out.mono fun b hb _ => .inl hb.1).lower (Nat.zero_le _)).move fS (fun b hb _ => ?_) fun j hj e => hnB (by rw [hj, e])
        rcases hb with hb | hb
        · exact H.out.nB b hb
        · have := H.out.lt; omega
      · refine (((HSP.out.mono (T := fun b => ((S b ∨ w.heap.size ≤ b) ∧ some b ≠ (Value.slice GA gn gc).ownBlock) ∧ b ≠ B) fun b hb hl => ⟨⟨hb.1, fun e => by have := (hlt0 b e.symm).1; omega⟩, ?_⟩).all HFF.out).move' fS fun b hb _ => hb.2).mono fun b hb _ => hb.1
        rcases hb.1 with hb | hb
        · exact H.out.nB b hb
        · have := H.out.lt; omega
      · rintro b (hb | hb)
        · exact H.out.nB b hb
        · have := H.out.lt; omega
end Go.Proofs.YteclgcnndjcmmaaDoor
