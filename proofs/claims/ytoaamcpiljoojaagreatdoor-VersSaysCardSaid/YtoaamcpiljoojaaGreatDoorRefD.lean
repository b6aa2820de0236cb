/- The document's log as a walk reads it: where a record is; whether two are the same; what a log without spans has dead. The document's Valid of a right record; its log's Add. -/
import Derived.Test.YtoaamcpiljoojaaGreatDoorRefS
import Derived.Test.YtoaamcpiljoojaaGreatDoorRSame
import Derived.Test.YtoaamcpiljoojaaGreatDoorWorld
namespace Go.Proofs.YtoaamcpiljoojaaGreatDoor
open Go.RowKit

/-- The document's log at B. -/
structure Xg (S : Nat → Prop) (w : World) (B : Nat) (g : Int) (lv : Value) (l : List Redo) : Prop where
  blk : w.heap[B]? = some (.cells #[.int .i64 g, lv, .slice none 0 0] 30 (0, 0))
  row : Sl kRedo S w lv l
  nB : ∀ b, S b → b ≠ B
theorem Xg.all {S : Nat → Prop} {w w' : World} {B : Nat} {g : Int} {lv : Value} {l : List Redo} (h : Xg S w B g lv l) (f : Fr All w w') : Xg S w' B g lv l :=
  ⟨(f.block B (blk_lt h.blk) trivial).trans h.blk, h.row.all f, h.nB⟩
theorem Xg.move {S T : Nat → Prop} {w w' : World} {B : Nat} {g : Int} {lv : Value} {l : List Redo} (h : Xg S w B g lv l) (f : Fr T w w') (h0 : T B) (h1 : ∀ b, S b → b < w.heap.size → T b) : Xg S w' B g lv l :=
  ⟨(f.block B (blk_lt h.blk) h0).trans h.blk, h.row.move' f h1, h.nB⟩
set_option maxRecDepth 100000 in
theorem ref_at {S : Nat → Prop} {w : World} {B : Nat} {g : Int} {lv : Value} {l : List Redo} (h : Xg S w B g lv l) (n : Int) (hl : l.length ≤ 1000000) : Calls Tryz.prog 47 #[.pointer (some ⟨B, 0, none⟩), .int .i64 n] w fun e w' =>
    w' = w ∧ ((isL l n = false ∧ e = .returned (.int .i64 (-1))) ∨ ∃ (k : Nat) (x : Redo), l[k]? = some x ∧ x.lsn = n ∧ e = .returned (.int .i64 (k : Int))) := by
  obtain ⟨p0, p1, p2, pz⟩ := blk3 h.blk
  obtain ⟨A, m, c, rfl, en, _⟩ := h.row.open_
  have HS := Lib.hid h.row
  have En := Lib.hid en
  have hm : m ≤ 1000000 := by omega
  clear h en hl
  go_enter Tryz.func47, Tryz.ntmps47
  go_wp2_with fail
  go_loopw [5] (fun i wr => ∃ j : Nat, j ≤ m ∧ i = .int .i64 j ∧ Hid (∀ i y, i < j → l[i]? = some y → y.lsn ≠ n) ∧ wr = w) (fun i _ => m - (intOf i).toNat)
  case atStart => exact ⟨0, Nat.zero_le _, rfl, (fun i y hi => absurd hi (Nat.not_lt_zero _) : ∀ i y, i < 0 → l[i]? = some y → y.lsn ≠ n), rfl⟩
  case round =>
    obtain ⟨j, hj, rfl, HA, hw⟩ := hrel
    obtain rfl := hw.symm
    clear hw
    by_cases hlt : j < m
    · obtain ⟨x, hx, _⟩ := get_of (l := l) (k := j) (by rw [En.out]; exact hlt)
      obtain ⟨b, o, A0, n0, c0, A1, n1, c1, rfl, g0, _⟩ := redo_at HS.out hx
      have HX := Lib.hid hx
      have b0 : (0 : Int) ≤ (j : Int) := by omega
      have b1 : (j : Int) < (m : Int) := by omega
      clear hx
      by_cases he : x.lsn = n
      · have hd : (x.lsn == n) = true := by rw [beq_iff_eq]; exact he
        have HE := Lib.hid he
        clear he
        go_wp2_with fail
        go_ret
        exact ⟨rfl, .inr ⟨j, x, HX.out, HE.out, rfl⟩⟩
      · have hd : (x.lsn == n) = false := beq_false_of_ne he
        have HE := Lib.hid he
        clear he
        go_wp2_with fail
        go_roundw
        case rel => exact ⟨j + 1, by omega, by go_num, Lib.hid (fun i y hi hy => by
          by_cases hij : i = j
          · subst hij
            obtain rfl := Option.some.inj (HX.out.symm.trans hy)
            exact HE.out
          · exact HA.out i y (by omega) hy), trivial⟩
        case measure => simp [intOf]; omega
    · obtain rfl : j = m := by omega
      go_wp2_with fail
      go_ret
      refine ⟨rfl, .inl ⟨isL_false.2 fun y hy => ?_, rfl⟩⟩
      obtain ⟨i, hi⟩ := List.mem_iff_getElem?.1 hy
      exact HA.out i y (by rw [← En.out]; exact (List.getElem?_eq_some_iff.1 hi).1) hi
theorem ref_dead0 (a b : Int) (w : World) : Calls Tryz.prog 46 #[.slice none 0 0, .int .i64 a, .int .i64 b] w fun e w' => e = .returned (.bool false) ∧ w' = w := by
  go_enter Tryz.func46, Tryz.ntmps46
  go_wp2_with fail
  go_loopw [7] (fun i wr => i = .int .i64 0 ∧ wr = w) (fun _ _ => 0)
  case atStart => exact ⟨rfl, rfl⟩
  case round =>
    obtain ⟨rfl, rfl⟩ := hrel
    go_wp2_with fail
    go_ret
    exact ⟨rfl, rfl⟩
set_option maxRecDepth 100000 in
set_option maxHeartbeats 20000000 in
theorem ref_same {w : World} {x y : Redo} {A0 A1 B0 B1 : Option Addr} {n0 c0 n1 c1 m0 d0 m1 d1 : Nat} {S0 S1 T0 T1 : Nat → Prop} (s0 : Sl kByte S0 w (.slice A0 n0 c0) x.key) (s1 : Sl kByte S1 w (.slice A1 n1 c1) x.val) (t0 : Sl kByte T0 w (.slice B0 m0 d0) y.key) (t1 : Sl kByte T1 w (.slice B1 m1 d1) y.val) (hk : x.key.length ≤ 1000000) (hv : x.val.length ≤ 1000000) :
    Calls Tryz.prog 17 #[.agg #[.int .i64 x.lsn, .int .i64 x.back, .int .i64 x.epoch, .int .i64 x.group, .int .i64 x.page, .int .i64 x.kind, .int .i64 x.slot, .slice A0 n0 c0, .slice A1 n1 c1, .bool x.last], .agg #[.int .i64 y.lsn, .int .i64 y.back, .int .i64 y.epoch, .int .i64 y.group, .int .i64 y.page, .int .i64 y.kind, .int .i64 y.slot, .slice B0 m0 d0, .slice B1 m1 d1, .bool y.last]] w
      fun e w' => e = .returned (.bool (decide (x = y))) ∧ Fr All w w' := by
  obtain ⟨lsn, back, epoch, group, page, kind, slot, key, val, last⟩ := x
  obtain ⟨lsn', back', epoch', group', page', kind', slot', key', val', last'⟩ := y
  dsimp only at *
  have F0 := ((Fr.refl All w).alloc (.cells #[.int .i64 lsn, .int .i64 back, .int .i64 epoch, .int .i64 group, .int .i64 page, .int .i64 kind, .int .i64 slot, .slice A0 n0 c0, .slice A1 n1 c1, .bool last] 33)).alloc (.cells #[.int .i64 lsn', .int .i64 back', .int .i64 epoch', .int .i64 group', .int .i64 page', .int .i64 kind', .int .i64 slot', .slice B0 m0 d0, .slice B1 m1 d1, .bool last'] 33)
  have P := heap_alloc2_old w (.cells #[.int .i64 lsn, .int .i64 back, .int .i64 epoch, .int .i64 group, .int .i64 page, .int .i64 kind, .int .i64 slot, .slice A0 n0 c0, .slice A1 n1 c1, .bool last] 33) (.cells #[.int .i64 lsn', .int .i64 back', .int .i64 epoch', .int .i64 group', .int .i64 page', .int .i64 kind', .int .i64 slot', .slice B0 m0 d0, .slice B1 m1 d1, .bool last'] 33)
  have Q := heap_alloc2_new w (.cells #[.int .i64 lsn, .int .i64 back, .int .i64 epoch, .int .i64 group, .int .i64 page, .int .i64 kind, .int .i64 slot, .slice A0 n0 c0, .slice A1 n1 c1, .bool last] 33) (.cells #[.int .i64 lsn', .int .i64 back', .int .i64 epoch', .int .i64 group', .int .i64 page', .int .i64 kind', .int .i64 slot', .slice B0 m0 d0, .slice B1 m1 d1, .bool last'] 33)
  obtain ⟨W, hW⟩ : ∃ W, (w.alloc (.cells #[.int .i64 lsn, .int .i64 back, .int .i64 epoch, .int .i64 group, .int .i64 page, .int .i64 kind, .int .i64 slot, .slice A0 n0 c0, .slice A1 n1 c1, .bool last] 33)).alloc (.cells #[.int .i64 lsn', .int .i64 back', .int .i64 epoch', .int .i64 group', .int .i64 page', .int .i64 kind', .int .i64 slot', .slice B0 m0 d0, .slice B1 m1 d1, .bool last'] 33) = W := ⟨_, rfl⟩
  rw [hW] at P Q F0
  obtain ⟨p0, p1, p2, p3, p4, p5, p6, p7, p8, p9, pz⟩ := blk10 P
  obtain ⟨q0, q1, q2, q3, q4, q5, q6, q7, q8, q9, qz⟩ := blk10 Q
  go_enter Tryz.func17, Tryz.ntmps17
  go_wp2_with fail
  refine (same_bytes (s0.all F0) (t0.all F0) (by omega)).mono ?_
  rintro e w1 ⟨rfl, f1⟩
  have P1 := (f1.block _ (blk_lt P) trivial).trans P
  have Q1 := (f1.block _ (blk_lt Q) trivial).trans Q
  have F1 := F0.trans f1
  clear p0 p1 p2 p3 p4 p5 p6 p7 p8 p9 pz q0 q1 q2 q3 q4 q5 q6 q7 q8 q9 qz P Q f1 hW
  obtain ⟨p0, p1, p2, p3, p4, p5, p6, p7, p8, p9, pz⟩ := blk10 P1
  obtain ⟨q0, q1, q2, q3, q4, q5, q6, q7, q8, q9, qz⟩ := blk10 Q1
  go_wp2_with fail
  refine (same_bytes (s1.all F1) (t1.all F1) (by omega)).mono ?_
  rintro e w2 ⟨rfl, f2⟩
  have P2 := (f2.block _ (blk_lt P1) trivial).trans P1
  have Q2 := (f2.block _ (blk_lt Q1) trivial).trans Q1
  have F2 := F1.trans f2
  clear p0 p1 p2 p3 p4 p5 p6 p7 p8 p9 pz q0 q1 q2 q3 q4 q5 q6 q7 q8 q9 qz P1 Q1 f2 F1 s0 s1 t0 t1
  obtain ⟨p0, p1, p2, p3, p4, p5, p6, p7, p8, p9, pz⟩ := blk10 P2
  obtain ⟨q0, q1, q2, q3, q4, q5, q6, q7, q8, q9, qz⟩ := blk10 Q2
  clear P2 Q2
  by_cases hkey : key = key'
  case neg =>
    have hf : decide (key = key') = false := decide_eq_false hkey
    have Hn := Lib.hid hkey
    clear hkey
    go_wp2_with fail
    go_ret
    exact ⟨ret_bool (by simp [Hn.out]), F2⟩
  subst hkey
  have hfkey : decide (key = key) = true := decide_eq_true rfl
  by_cases hval : val = val'
  case neg =>
    have hf : decide (val = val') = false := decide_eq_false hval
    have Hn := Lib.hid hval
    clear hval
    go_wp2_with fail
    go_ret
    exact ⟨ret_bool (by simp [Hn.out]), F2⟩
  subst hval
  have hfval : decide (val = val) = true := decide_eq_true rfl
  by_cases hlsn : lsn = lsn'
  case neg =>
    have hf : (lsn == lsn') = false := beq_false_of_ne hlsn
    have Hn := Lib.hid hlsn
    clear hlsn
    go_wp2_with fail
    go_ret
    exact ⟨ret_bool (by simp [Hn.out]), F2⟩
  subst hlsn
  by_cases hback : back = back'
  case neg =>
    have hf : (back == back') = false := beq_false_of_ne hback
    have Hn := Lib.hid hback
    clear hback
    go_wp2_with fail
    go_ret
    exact ⟨ret_bool (by simp [Hn.out]), F2⟩
  subst hback
  by_cases hepoch : epoch = epoch'
  case neg =>
    have hf : (epoch == epoch') = false := beq_false_of_ne hepoch
    have Hn := Lib.hid hepoch
    clear hepoch
    go_wp2_with fail
    go_ret
    exact ⟨ret_bool (by simp [Hn.out]), F2⟩
  subst hepoch
  by_cases hgroup : group = group'
  case neg =>
    have hf : (group == group') = false := beq_false_of_ne hgroup
    have Hn := Lib.hid hgroup
    clear hgroup
    go_wp2_with fail
    go_ret
    exact ⟨ret_bool (by simp [Hn.out]), F2⟩
  subst hgroup
  by_cases hpage : page = page'
  case neg =>
    have hf : (page == page') = false := beq_false_of_ne hpage
    have Hn := Lib.hid hpage
    clear hpage
    go_wp2_with fail
    go_ret
    exact ⟨ret_bool (by simp [Hn.out]), F2⟩
  subst hpage
  by_cases hkind : kind = kind'
  case neg =>
    have hf : (kind == kind') = false := beq_false_of_ne hkind
    have Hn := Lib.hid hkind
    clear hkind
    go_wp2_with fail
    go_ret
    exact ⟨ret_bool (by simp [Hn.out]), F2⟩
  subst hkind
  by_cases hslot : slot = slot'
  case neg =>
    have hf : (slot == slot') = false := beq_false_of_ne hslot
    have Hn := Lib.hid hslot
    clear hslot
    go_wp2_with fail
    go_ret
    exact ⟨ret_bool (by simp [Hn.out]), F2⟩
  subst hslot
  by_cases hlast : last = last'
  case neg =>
    have hf : (last == last') = false := beq_false_of_ne hlast
    have Hn := Lib.hid hlast
    clear hlast
    go_wp2_with fail
    go_ret
    exact ⟨ret_bool (by simp [Hn.out]), F2⟩
  subst hlast
  go_wp2_with fail
  go_ret
  exact ⟨ret_bool (by simp), F2⟩
end Go.Proofs.YtoaamcpiljoojaaGreatDoor
namespace Go.Proofs.YtoaamcpiljoojaaGreatDoor
open Go.RowKit

set_option maxHeartbeats 4000000 in
set_option maxRecDepth 100000 in
theorem refvalid_ok {w : World} {r : Redo} {v0 v1 : Value} {S T : Nat → Prop} (s0 : Sl kByte S w v0 r.key) (s1 : Sl kByte T w v1 r.val) (hv : validIx r = none) :
    Calls Tryz.prog 45 #[.agg #[.int .i64 r.lsn, .int .i64 r.back, .int .i64 r.epoch, .int .i64 r.group, .int .i64 r.page, .int .i64 r.kind, .int .i64 r.slot, v0, v1, .bool r.last]] w
      fun e w' => e = .returned (.int .i64 0) ∧ Fr All w w' := by
  obtain ⟨A0, n0, c0, rfl, e0, _⟩ := s0.open_
  obtain ⟨A1, n1, c1, rfl, e1, _⟩ := s1.open_
  obtain ⟨lsn, back, epoch, group, page, kind, slot, key, val, last⟩ := r
  dsimp only at *
  have B := heap_alloc_new w (.cells #[.int .i64 lsn, .int .i64 back, .int .i64 epoch, .int .i64 group, .int .i64 page, .int .i64 kind, .int .i64 slot, .slice A0 n0 c0, .slice A1 n1 c1, .bool last] 33)
  have F0 := (Fr.refl All w).alloc (.cells #[.int .i64 lsn, .int .i64 back, .int .i64 epoch, .int .i64 group, .int .i64 page, .int .i64 kind, .int .i64 slot, .slice A0 n0 c0, .slice A1 n1 c1, .bool last] 33)
  obtain ⟨p0, p1, p2, p3, p4, p5, p6, p7, p8, p9, pz⟩ := blk10 B
  obtain ⟨W, hW⟩ : ∃ W, w.alloc (.cells #[.int .i64 lsn, .int .i64 back, .int .i64 epoch, .int .i64 group, .int .i64 page, .int .i64 kind, .int .i64 slot, .slice A0 n0 c0, .slice A1 n1 c1, .bool last] 33) = W := ⟨_, rfl⟩
  rw [hW] at F0 p0 p1 p2 p3 p4 p5 p6 p7 p8 p9 pz
  have E0 := Lib.hid e0
  have E1 := Lib.hid e1
  clear B s0 s1 e0 e1
  obtain ⟨v1, v2, v3, v4, v5, v6, v7, v8, v9, v10, v11, v12, v13, v14, v15, v16⟩ := validIx_none hv
  dsimp only at v1 v2 v3 v4 v5 v6 v7 v8 v9 v10 v11 v12 v13 v14 v15 v16
  have h1 : lsnB lsn = true := by simp [lsnB]; omega
  have h3 : inB epoch 1073741825 = true := inB_iff.2 ⟨v3, v4⟩
  have h4 : inB group 4 = true := inB_iff.2 ⟨v5, v6⟩
  have h5 : inB page 256 = true := inB_iff.2 ⟨v7, v8⟩
  have h6 : decide (back < 0) = false := decide_eq_false (by omega)
  have h7 : decide (back ≥ lsn) = false := decide_eq_false (by omega)
  have h8 : decide (slot < 0) = false := decide_eq_false (by omega)
  have h13 : decide (slot > 32768) = false := decide_eq_false (by omega)
  have h9 : decide (kind < 1) = false := decide_eq_false (by omega)
  have h10 : decide (kind > 6) = false := decide_eq_false (by omega)
  have h11 : decide ((n0 : Int) > 32) = false := decide_eq_false (by rw [E0.out] at v15; omega)
  have h12 : decide ((n1 : Int) > 64) = false := decide_eq_false (by rw [E1.out] at v16; omega)
  clear v1 v2 v3 v4 v5 v6 v7 v8 v9 v10 v11 v12 v13 v14 v15 v16 hv
  go_enter Tryz.func45, Tryz.ntmps45
  go_wp2_with (first | (go_at_call 87; refine (reflsn_call _ _).mono ?_; rintro e _ ⟨rfl, rfl⟩) | (go_at_call 88; refine (refepoch_call _ _).mono ?_; rintro e _ ⟨rfl, rfl⟩) | (go_at_call 89; refine (refgroup_call _ _).mono ?_; rintro e _ ⟨rfl, rfl⟩) | (go_at_call 69; refine (refpage_call _ _).mono ?_; rintro e _ ⟨rfl, rfl⟩))
  go_ret
  exact ⟨rfl, F0⟩

/-- What an Add of a right record makes of the list. -/
def xl (g : Int) (l : List Redo) (r : Redo) : List Redo := if r.group = g ∧ isL l r.lsn = false then lins l r else l
set_option maxRecDepth 100000 in
set_option maxHeartbeats 20000000 in
theorem ref_add {S S0 S1 : Nat → Prop} {w : World} {B : Nat} {g : Int} {lv v0 v1 : Value} {l : List Redo} {r : Redo} (h : Xg S w B g lv l) (k0 : Sl kByte S0 w v0 r.key) (k1 : Sl kByte S1 w v1 r.val) (hv : validIx r = none) (hR : Rise l) (hl : l.length ≤ 10000) (hok : RedosOk l) :
    Calls Tryz.prog 11 #[.pointer (some ⟨B, 0, none⟩), .agg #[.int .i64 r.lsn, .int .i64 r.back, .int .i64 r.epoch, .int .i64 r.group, .int .i64 r.page, .int .i64 r.kind, .int .i64 r.slot, v0, v1, .bool r.last]] w
      fun e w' => ∃ (z : Bool) (c : Int) (S' : Nat → Prop) (lv' : Value), e = .returned (.tuple #[.bool z, .int .i64 c]) ∧ Xg S' w' B g lv' (xl g l r) ∧ (∀ b, S' b → S b ∨ w.heap.size ≤ b) ∧ Fr (fun b => b ≠ B) w w' := by
  obtain ⟨A0, n0, c0, rfl, e0, _⟩ := k0.open_
  obtain ⟨A1, n1, c1, rfl, e1, _⟩ := k1.open_
  have F0 := (Fr.refl All w).alloc (.cells #[.int .i64 r.lsn, .int .i64 r.back, .int .i64 r.epoch, .int .i64 r.group, .int .i64 r.page, .int .i64 r.kind, .int .i64 r.slot, .slice A0 n0 c0, .slice A1 n1 c1, .bool r.last] 33)
  have P0 := heap_alloc_new w (.cells #[.int .i64 r.lsn, .int .i64 r.back, .int .i64 r.epoch, .int .i64 r.group, .int .i64 r.page, .int .i64 r.kind, .int .i64 r.slot, .slice A0 n0 c0, .slice A1 n1 c1, .bool r.last] 33)
  have HX := Lib.hid (h.all F0)
  have HK0 := Lib.hid (k0.all F0)
  have HK1 := Lib.hid (k1.all F0)
  have HV := Lib.hid hv
  have HR := Lib.hid hR
  have HOK := Lib.hid hok
  have HBw := blk_lt h.blk
  have HNB := Lib.hid h.nB
  clear h k0 k1 hv hR hok e0 e1
  go_enter Tryz.func11, Tryz.ntmps11
  go_wp2_with fail
  refine (refvalid_ok HK0.out HK1.out HV.out).mono ?_
  rintro e w2 ⟨rfl, f2⟩
  have F2 := Lib.hid (F0.trans f2)
  have HX2 := Lib.hid (HX.out.all f2)
  have P2 := Lib.hid ((f2.block _ (blk_lt P0) trivial).trans P0)
  have HK02 := Lib.hid (HK0.out.all f2)
  have HK12 := Lib.hid (HK1.out.all f2)
  clear HX HK0 HK1 P0 F0 f2
  obtain ⟨p0, p1, p2, p3, p4, p5, p6, p7, p8, p9, pz⟩ := blk10 P2.out
  obtain ⟨x0, x1, x2, xz⟩ := blk3 HX2.out.blk
  by_cases hg : r.group = g
  · have hgb : (r.group != g) = false := by rw [bne_eq_false_iff_eq]; exact hg
    have HGG := Lib.hid hg
    clear hg
    go_upto_region 4 with (fail)
    go_quiet (fail)
    go_upto_region 6 with (fail)
    refine wp_name ?_
    intro W3 hW3
    have F3 : Fr All w2 W3 := by
      rw [hW3]
      repeat (first | (with_reducible exact Fr.refl _ _) | with_reducible refine Fr.drewN ?_ _ | with_reducible refine Fr.drew ?_)
    clear hW3 hgb
    have FF3 := Lib.hid (F2.out.trans F3)
    have HX3 := Lib.hid (HX2.out.all F3)
    have P3 := Lib.hid ((F3.block _ (blk_lt P2.out) trivial).trans P2.out)
    have HK03 := Lib.hid (HK02.out.all F3)
    have HK13 := Lib.hid (HK12.out.all F3)
    clear p0 p1 p2 p3 p4 p5 p6 p7 p8 p9 pz x0 x1 x2 xz P2 HX2 HK02 HK12 F3 F2
    obtain ⟨p0, p1, p2, p3, p4, p5, p6, p7, p8, p9, pz⟩ := blk10 P3.out
    obtain ⟨x0, x1, x2, xz⟩ := blk3 HX3.out.blk
    have HC := Lib.hid fun m => ref_dead0 r.lsn r.epoch (W3.drewN m)
    go_quiet ((go_at_call 46; exact Calls.quiet_of_same (HC.out _)))
    go_wp2_with fail
    refine (ref_at (HX3.out.all ((Fr.refl All W3).drewN _)) r.lsn (by omega)).mono ?_
    rintro e w5 ⟨hw5, hcase⟩
    have F5 : Fr All W3 w5 := by rw [hw5]; exact (Fr.refl All W3).drewN _
    have FF5 := Lib.hid (FF3.out.trans F5)
    have HX5 := Lib.hid (HX3.out.all F5)
    have P5 := Lib.hid ((F5.block _ (blk_lt P3.out) trivial).trans P3.out)
    have HK05 := Lib.hid (HK03.out.all F5)
    have HK15 := Lib.hid (HK13.out.all F5)
    clear hw5 p0 p1 p2 p3 p4 p5 p6 p7 p8 p9 pz x0 x1 x2 xz P3 HX3 HK03 HK13 F5 FF3
    obtain ⟨p0, p1, p2, p3, p4, p5, p6, p7, p8, p9, pz⟩ := blk10 P5.out
    obtain ⟨x0, x1, x2, xz⟩ := blk3 HX5.out.blk
    rcases hcase with ⟨hn, rfl⟩ | ⟨k, y, hy, hyl, rfl⟩
    · obtain ⟨ln, hln⟩ : ∃ ln, l.length = ln := ⟨_, rfl⟩
      obtain ⟨LA, lc, rfl⟩ : ∃ A c, lv = .slice A ln c := by
        obtain ⟨A, c, e, _⟩ := HX5.out.row
        exact ⟨A, c, by rw [e, hln]⟩
      have hfull : decide ((ln : Int) ≥ 16384) = false := decide_eq_false (by omega)
      have HN := Lib.hid hn
      have hln2 : ln ≤ 10000 := by omega
      have hB5 : B < w5.heap.size := blk_lt HX5.out.blk
      have hkl := (validIx_none HV.out).2.2.2.2.2.2.2.2.2.2.2.2.2.2
      have HLN := Lib.hid hln
      clear hn hln
      go_upto_region 15 with (fail)
      clear hfull
      refine wp_region_last (S := fun w' => w'.cell? ⟨B, 1, none⟩ = some (.slice LA ln lc) ∧ (w'.cell? ⟨w.heap.size, 0, none⟩ = some (.int .i64 r.lsn) ∧ w'.cell? ⟨w.heap.size, 1, none⟩ = some (.int .i64 r.back) ∧ w'.cell? ⟨w.heap.size, 2, none⟩ = some (.int .i64 r.epoch) ∧ w'.cell? ⟨w.heap.size, 3, none⟩ = some (.int .i64 r.group) ∧ w'.cell? ⟨w.heap.size, 4, none⟩ = some (.int .i64 r.page) ∧ w'.cell? ⟨w.heap.size, 5, none⟩ = some (.int .i64 r.kind) ∧ w'.cell? ⟨w.heap.size, 6, none⟩ = some (.int .i64 r.slot) ∧ w'.cell? ⟨w.heap.size, 7, none⟩ = some (.slice A0 n0 c0) ∧ w'.cell? ⟨w.heap.size, 8, none⟩ = some (.slice A1 n1 c1) ∧ w'.cell? ⟨w.heap.size, 9, none⟩ = some (.bool r.last))) 13 (by kernel_rfl) rfl (by kernel_rfl) ⟨x1, p0, p1, p2, p3, p4, p5, p6, p7, p8, p9⟩ (fun hHeld => ?_)
      simp only [List.take_succ_cons, List.take_zero]
      refine wpAnyH_take (i := 0) (v := ?_) rfl (by kernel_rfl) (by kernel_rfl) (by kernel_rfl) (fun _ _ _ h => h) (Or.inl ⟨by rfl, ?_⟩) (by assumption) ?_
      rotate_left
      · (intro w hSw; (try dsimp only at hSw); go_simp; try with_reducible rfl)
      try simp only [List.getElem_toArray, List.getElem_cons_succ, List.getElem_cons_zero, Act.put, List.setIfInBounds_toArray, List.set_cons_succ, List.set_cons_zero]
      refine wpAnyH_take (i := 1) (v := ?_) rfl (by kernel_rfl) (by kernel_rfl) (by kernel_rfl) (fun _ _ _ h => h) (Or.inl ⟨by rfl, ?_⟩) (by assumption) ?_
      rotate_left
      · (intro w hSw; (try dsimp only at hSw); go_simp; try with_reducible rfl)
      try simp only [List.getElem_toArray, List.getElem_cons_succ, List.getElem_cons_zero, Act.put, List.setIfInBounds_toArray, List.set_cons_succ, List.set_cons_zero]
      refine wpAnyH_take (i := 2) (v := ?_) rfl (by kernel_rfl) (by kernel_rfl) (by kernel_rfl) (fun _ _ _ h => h) (Or.inl ⟨by rfl, ?_⟩) (by assumption) ?_
      rotate_left
      · (intro w hSw; (try dsimp only at hSw); go_simp; try with_reducible rfl)
      try simp only [List.getElem_toArray, List.getElem_cons_succ, List.getElem_cons_zero, Act.put, List.setIfInBounds_toArray, List.set_cons_succ, List.set_cons_zero]
      refine wpAnyH_take (i := 3) (v := ?_) rfl (by kernel_rfl) (by kernel_rfl) (by kernel_rfl) (fun _ _ _ h => h) (Or.inl ⟨by rfl, ?_⟩) (by assumption) ?_
      rotate_left
      · (intro w hSw; (try dsimp only at hSw); go_simp; try with_reducible rfl)
      try simp only [List.getElem_toArray, List.getElem_cons_succ, List.getElem_cons_zero, Act.put, List.setIfInBounds_toArray, List.set_cons_succ, List.set_cons_zero]
      refine wpAnyH_take (i := 4) (v := ?_) rfl (by kernel_rfl) (by kernel_rfl) (by kernel_rfl) (fun _ _ _ h => h) (Or.inl ⟨by rfl, ?_⟩) (by assumption) ?_
      rotate_left
      · (intro w hSw; (try dsimp only at hSw); go_simp; try with_reducible rfl)
      try simp only [List.getElem_toArray, List.getElem_cons_succ, List.getElem_cons_zero, Act.put, List.setIfInBounds_toArray, List.set_cons_succ, List.set_cons_zero]
      refine wpAnyH_take (i := 6) (v := ?_) rfl (by kernel_rfl) (by kernel_rfl) (by kernel_rfl) (fun _ _ _ h => h) (Or.inl ⟨by rfl, ?_⟩) (by assumption) ?_
      rotate_left
      · (intro w hSw; (try dsimp only at hSw); go_simp; try with_reducible rfl)
      try simp only [List.getElem_toArray, List.getElem_cons_succ, List.getElem_cons_zero, Act.put, List.setIfInBounds_toArray, List.set_cons_succ, List.set_cons_zero]
      refine wpAnyH_ready (rs := [5]) (by kernel_rfl) (by simp) (AllReadyH.cons rfl (fun K hK => ?_) AllReadyH.nil)
      go_simp
      refine (ref_redos (HX5.out.row.all (Fr.refl All w5).drew) HOK.out).mono ?_
      rintro e w6 ⟨A6, c6, rfl, o6, f6⟩
      rw [HLN.out] at o6 ⊢
      go_simp
      have F6 : Fr All w5 w6 := (Fr.refl All w5).drew.trans f6
      refine hK.out _ _ ⟨F6.cell trivial x1, F6.cell trivial p0, F6.cell trivial p1, F6.cell trivial p2, F6.cell trivial p3, F6.cell trivial p4, F6.cell trivial p5, F6.cell trivial p6, F6.cell trivial p7, F6.cell trivial p8, F6.cell trivial p9⟩ (fun hHeld => ?_)
      clear hK K
      try simp only [List.getElem_toArray, List.getElem_cons_succ, List.getElem_cons_zero, Act.put, List.setIfInBounds_toArray, List.set_cons_succ, List.set_cons_zero]
      refine wpAnyH_ready (rs := [7]) (by kernel_rfl) (by simp) (AllReadyH.cons rfl (fun K hK => ?_) AllReadyH.nil)
      go_simp
      refine (ref_redo (HK05.out.all F6) (HK15.out.all F6) (by omega) (by omega)).mono ?_
      rintro e w7 ⟨A7, n7, A8, n8, rfl, s7, s8, f7⟩
      go_simp
      have F7 : Fr All w5 w7 := F6.trans f7
      refine hK.out _ _ ⟨F7.cell trivial x1, F7.cell trivial p0, F7.cell trivial p1, F7.cell trivial p2, F7.cell trivial p3, F7.cell trivial p4, F7.cell trivial p5, F7.cell trivial p6, F7.cell trivial p7, F7.cell trivial p8, F7.cell trivial p9⟩ (fun hHeld => ?_)
      clear hK K
      try simp only [List.getElem_toArray, List.getElem_cons_succ, List.getElem_cons_zero, Act.put, List.setIfInBounds_toArray, List.set_cons_succ, List.set_cons_zero]
      refine wpAnyH_ready (rs := [8]) (by kernel_rfl) (by simp) (AllReadyH.cons rfl (fun K hK => ?_) AllReadyH.nil)
      go_simp
      have FB : Fr All w7 (w7.alloc (.cells #[.int .i64 r.lsn, .int .i64 r.back, .int .i64 r.epoch, .int .i64 r.group, .int .i64 r.page, .int .i64 r.kind, .int .i64 r.slot, .slice A7 r.key.length n7, .slice A8 r.val.length n8, .bool r.last] 33)) := (Fr.refl All w7).alloc _
      have F8 := F7.trans FB
      refine hK.out _ _ ⟨F8.cell trivial x1, F8.cell trivial p0, F8.cell trivial p1, F8.cell trivial p2, F8.cell trivial p3, F8.cell trivial p4, F8.cell trivial p5, F8.cell trivial p6, F8.cell trivial p7, F8.cell trivial p8, F8.cell trivial p9⟩ (fun hHeld => ?_)
      clear hK K
      try simp only [List.getElem_toArray, List.getElem_cons_succ, List.getElem_cons_zero, Act.put, List.setIfInBounds_toArray, List.set_cons_succ, List.set_cons_zero]
      have hz5 : w5.drew.heap.size = w5.heap.size := rfl
      have O8 := (o6.all f7).all FB
      have HY : Src kRedo (From w6.heap.size) (w7.alloc (.cells #[.int .i64 r.lsn, .int .i64 r.back, .int .i64 r.epoch, .int .i64 r.group, .int .i64 r.page, .int .i64 r.kind, .int .i64 r.slot, .slice A7 r.key.length n7, .slice A8 r.val.length n8, .bool r.last] 33)) (.slice (some ⟨w7.heap.size, 0, none⟩) 1 1) [r] := Src.box (d := kRedo) (x := r) (kRedo_mk s7 s8) _ 1
      have h56 := F6.size
      have hol := own_lt o6
      refine wpAnyH_ready (rs := [9]) (by kernel_rfl) (by simp) (AllReadyH.cons rfl (fun K hK => ?_) AllReadyH.nil)
      refine wp_app rfl Tryz.underlying27 info_redo rfl (by decide) O8 HY rfl rfl (fun b hb _ => ⟨by unfold From at hb ⊢; omega, fun e => by have := (hol b e.symm).2; unfold From at hb; omega⟩) (by rw [HLN.out]; simp only [List.length_cons, List.length_nil]; omega) (by have := F8.size; omega) ?_
      intro v9 w9 o9 f9 h9
      have F9 : Fr All w5 w9 := F8.row f9.grown fun m hm => (hol m hm).1
      obtain ⟨M9, hM9⟩ : ∃ M, l ++ [r] = M := ⟨_, rfl⟩
      rw [hM9] at o9
      obtain ⟨A9, c9, rfl⟩ := o9.length
      obtain ⟨m9, hm9⟩ : ∃ m, M9.length = m := ⟨_, rfl⟩
      rw [hm9] at o9 ⊢
      refine hK.out _ _ ⟨F9.cell trivial x1, F9.cell trivial p0, F9.cell trivial p1, F9.cell trivial p2, F9.cell trivial p3, F9.cell trivial p4, F9.cell trivial p5, F9.cell trivial p6, F9.cell trivial p7, F9.cell trivial p8, F9.cell trivial p9⟩ (fun hHeld => ?_)
      clear hK K
      try simp only [List.getElem_toArray, List.getElem_cons_succ, List.getElem_cons_zero, Act.put, List.setIfInBounds_toArray, List.set_cons_succ, List.set_cons_zero]
      have HS9 : Sl kRedo (fun b => w5.heap.size ≤ b) w9 (.slice A9 m9 c9) (l ++ [r]) := by
        rw [hM9]
        exact o9.sl_in (fun b hb _ => by unfold From at hb; omega) (fun b hb _ => by omega)
      refine wpAnyH_ready (rs := [10]) (by kernel_rfl) (by simp) (AllReadyH.cons rfl (fun K hK => ?_) AllReadyH.nil)
      go_simp
      refine (ref_sort HS9 HR.out HN.out (by omega)).mono ?_
      rintro e w10 ⟨A10, m10, c10, rfl, s10, f10⟩
      go_simp
      have F10 : Fr All w5 w10 := F9.trans f10
      refine hK.out _ _ ⟨F10.cell trivial x1, F10.cell trivial p0, F10.cell trivial p1, F10.cell trivial p2, F10.cell trivial p3, F10.cell trivial p4, F10.cell trivial p5, F10.cell trivial p6, F10.cell trivial p7, F10.cell trivial p8, F10.cell trivial p9⟩ (fun hHeld => ?_)
      clear hK K
      try simp only [List.getElem_toArray, List.getElem_cons_succ, List.getElem_cons_zero, Act.put, List.setIfInBounds_toArray, List.set_cons_succ, List.set_cons_zero]
      refine wpAnyH_take (i := 11) (v := ?_) rfl (by kernel_rfl) (by kernel_rfl) (by kernel_rfl) (fun _ _ _ h => h) (Or.inl ⟨by rfl, ?_⟩) (by assumption) ?_
      rotate_left
      · (intro w hSw; (try dsimp only at hSw); go_simp; try with_reducible rfl)
      try simp only [List.getElem_toArray, List.getElem_cons_succ, List.getElem_cons_zero, Act.put, List.setIfInBounds_toArray, List.set_cons_succ, List.set_cons_zero]
      refine wpAnyH_take (i := 12) (v := ?_) rfl (by kernel_rfl) (by kernel_rfl) (by kernel_rfl) (fun _ _ _ h => h) (Or.inl ⟨by rfl, ?_⟩) (by assumption) ?_
      rotate_left
      · (intro w hSw; (try dsimp only at hSw); go_simp; try with_reducible rfl)
      try simp only [List.getElem_toArray, List.getElem_cons_succ, List.getElem_cons_zero, Act.put, List.setIfInBounds_toArray, List.set_cons_succ, List.set_cons_zero]
      refine wpAnyH_done (by kernel_rfl) ?_ _
      show wpList _ _ _ _ _ _
      have B10 := (F10.block B hB5 trivial).trans HX5.out.blk
      have y1 := (blk3 B10).2.1
      have yz := (blk3 B10).2.2.2
      have h59 := F9.size
      have HS10 := Lib.hid s10
      have HB10 := Lib.hid B10
      have HF10 := Lib.hid (FF5.out.trans F10)
      clear hHeld p0 p1 p2 p3 p4 p5 p6 p7 p8 p9 pz x0 x1 x2 xz o6 o9 O8 HY HS9 s7 s8 s10 f6 f7 f9 f10 F6 F7 F8 F9 F10 FB B10 hol h9
      go_wp2_with fail
      go_ret2
      have FS : Fr (fun b => b ≠ B) w10 (w10.setCell ⟨B, 1, none⟩ (.slice A10 m10 c10)) := (Fr.refl _ _).setCell (p := ⟨B, 1, none⟩) (fun b hb => hb) _
      refine ⟨true, 0, fun b => w5.heap.size ≤ b, .slice A10 m10 c10, rfl, ⟨heap_setCell_same _ B 1 _ _ _ HB10.out, ?_, fun b hb => by omega⟩, fun b hb => .inr (by have := FF5.out.size; omega), (HF10.out.mono fun _ _ => trivial).trans FS⟩
      unfold xl
      rw [if_pos ⟨HGG.out, HN.out⟩]
      exact (HS10.out.move' FS (fun b hb _ => by rcases hb with hb | hb <;> omega)).mono fun b hb _ => by rcases hb with hb | hb <;> omega
    · obtain ⟨ln, hln⟩ : ∃ ln, l.length = ln := ⟨_, rfl⟩
      have hkl : k < ln := by rw [← hln]; exact (List.getElem?_eq_some_iff.1 hy).1
      obtain ⟨LA, lc, rfl⟩ : ∃ A c, lv = .slice A ln c := by
        obtain ⟨A, c, e, _⟩ := HX5.out.row
        exact ⟨A, c, by rw [e, hln]⟩
      obtain ⟨bb, oo, B0, m0, d0, B1, m1, d1, rfl, g0, g1, g2, g3, g4, g5, g6, g7, g8, g9, t0, t1⟩ := redo_at HX5.out.row hy
      have b0 : (0 : Int) ≤ (k : Int) := by omega
      have b1 : (k : Int) < (ln : Int) := by omega
      have HT0 := Lib.hid t0
      have HT1 := Lib.hid t1
      have HYL := Lib.hid hyl
      have HY := Lib.hid hy
      have hyo := HOK.out.2 y (List.mem_of_getElem? hy)
      have hq0 : y.key.length ≤ 1000000 := hyo.1
      have hq1 : y.val.length ≤ 1000000 := hyo.2
      clear t0 t1 hy hyl hyo hln
      go_upto_region 10 with (fail)
      go_region_held3 (fun w' => w'.cell? ⟨B, 1, none⟩ = some (.slice (some ⟨bb, oo, none⟩) ln lc) ∧ (w'.cell? ⟨w.heap.size, 0, none⟩ = some (.int .i64 r.lsn) ∧ w'.cell? ⟨w.heap.size, 1, none⟩ = some (.int .i64 r.back) ∧ w'.cell? ⟨w.heap.size, 2, none⟩ = some (.int .i64 r.epoch) ∧ w'.cell? ⟨w.heap.size, 3, none⟩ = some (.int .i64 r.group) ∧ w'.cell? ⟨w.heap.size, 4, none⟩ = some (.int .i64 r.page) ∧ w'.cell? ⟨w.heap.size, 5, none⟩ = some (.int .i64 r.kind) ∧ w'.cell? ⟨w.heap.size, 6, none⟩ = some (.int .i64 r.slot) ∧ w'.cell? ⟨w.heap.size, 7, none⟩ = some (.slice A0 n0 c0) ∧ w'.cell? ⟨w.heap.size, 8, none⟩ = some (.slice A1 n1 c1) ∧ w'.cell? ⟨w.heap.size, 9, none⟩ = some (.bool r.last)) ∧
        (w'.cell? ⟨bb, oo + k * 10, none⟩ = some (.int .i64 y.lsn) ∧ w'.cell? ⟨bb, oo + k * 10 + 1, none⟩ = some (.int .i64 y.back) ∧ w'.cell? ⟨bb, oo + k * 10 + 2, none⟩ = some (.int .i64 y.epoch) ∧ w'.cell? ⟨bb, oo + k * 10 + 3, none⟩ = some (.int .i64 y.group) ∧ w'.cell? ⟨bb, oo + k * 10 + 4, none⟩ = some (.int .i64 y.page) ∧ w'.cell? ⟨bb, oo + k * 10 + 5, none⟩ = some (.int .i64 y.kind) ∧ w'.cell? ⟨bb, oo + k * 10 + 6, none⟩ = some (.int .i64 y.slot) ∧ w'.cell? ⟨bb, oo + k * 10 + 7, none⟩ = some (.slice B0 m0 d0) ∧ w'.cell? ⟨bb, oo + k * 10 + 8, none⟩ = some (.slice B1 m1 d1) ∧ w'.cell? ⟨bb, oo + k * 10 + 9, none⟩ = some (.bool y.last)))
        (first | go_keep | (go_split_ands; refine ⟨?_, ⟨?_, ?_, ?_, ?_, ?_, ?_, ?_, ?_, ?_, ?_⟩, ?_, ?_, ?_, ?_, ?_, ?_, ?_, ?_, ?_, ?_⟩ <;> exact Fr.cell (by assumption) trivial (by assumption)))
        (first
          | (go_at_call 17; refine (ref_same (x := y) (y := r) (HT0.out.all (Fr.refl All w5).drew) (HT1.out.all (Fr.refl All w5).drew) (HK05.out.all (Fr.refl All w5).drew) (HK15.out.all (Fr.refl All w5).drew) hq0 hq1).mono ?_; rintro e w6 ⟨rfl, f6⟩))
      have F6 : Fr All w5 w6 := (Fr.refl All w5).drew.trans f6
      have HX6 := Lib.hid (HX5.out.all F6)
      have FF6 := Lib.hid (FF5.out.trans F6)
      have hxl : xl g l r = l := by
        unfold xl
        rw [if_neg]
        rintro ⟨_, h2⟩
        exact isL_false.1 h2 y (List.mem_of_getElem? HY.out) HYL.out
      have HXL := Lib.hid hxl
      clear g0 g1 g2 g3 g4 g5 g6 g7 g8 g9 p0 p1 p2 p3 p4 p5 p6 p7 p8 p9 pz x0 x1 x2 xz f6 F6 hxl
      cases hd : decide (y = r) with
      | true =>
        go_wp2_with fail
        go_ret2
        exact ⟨false, 0, S, _, rfl, by rw [HXL.out]; exact HX6.out, fun b hb => .inl hb, FF6.out.mono fun _ _ => trivial⟩
      | false =>
        go_wp2_with fail
        go_ret2
        exact ⟨false, 108, S, _, rfl, by rw [HXL.out]; exact HX6.out, fun b hb => .inl hb, FF6.out.mono fun _ _ => trivial⟩
  · have hgb : (r.group != g) = true := by rw [bne_iff_ne]; exact hg
    have HGG := Lib.hid hg
    clear hg
    go_upto_region 4 with (fail)
    go_quiet (fail)
    go_wp2_with fail
    go_ret2
    exact ⟨false, 103, S, lv, rfl, by
      unfold xl
      rw [if_neg (fun h => HGG.out h.1)]
      exact HX2.out.all ((Fr.refl All w2).drewN _), fun b hb => .inl hb, (F2.out.drewN _).mono fun _ _ => trivial⟩
end Go.Proofs.YtoaamcpiljoojaaGreatDoor
