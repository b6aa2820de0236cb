/- A call laid. A record that is new, told a log. -/
import Derived.Test.YteclgcnndjcmmaaDoorSCl
import Derived.Test.YteclgcnndjcmmaaDoorCBy
import Derived.Lib.MinMax
namespace Go.Proofs.YteclgcnndjcmmaaDoor
open Go.RowKit Go.Maps

theorem DOk.lay {ds : DSt} {cs : List CallP} (o : DOk ds cs) {c : CallP} (h1 : Call1 c) (hroom : (cs.length : Int) < ds.blocks) (hfew : cs.length < 1000) {n' : Nat} (hn : n' ≤ ds.ns + 1) : DOk ((ds.put (cs.length : Int) (blkB cs.length c)).sync n') (cs ++ [c]) where
  down := o.down
  arm := o.arm
  pen := fun _ => rfl
  np := rfl
  b0 := o.b0
  b1 := o.b1
  fit := by rw [List.length_append, List.length_singleton]; show ((cs.length + 1 : Nat) : Int) ≤ ds.blocks; omega
  syn := fun i d hd => by
    show (upd ds.pen (cs.length : Int) (blkB cs.length c) (i : Int) <|> ds.syn (i : Int)) = _
    unfold upd
    by_cases hi : (i : Int) = (cs.length : Int)
    · have hi2 : i = cs.length := by omega
      subst hi2
      rw [List.getElem?_concat_length] at hd
      obtain rfl := Option.some.inj hd
      rw [if_pos rfl]
      rfl
    · rw [if_neg hi, o.pen]
      have hil := (List.getElem?_eq_some_iff.1 hd).1
      rw [List.length_append, List.length_singleton] at hil
      rw [List.getElem?_append_left (by omega)] at hd
      rw [o.syn i d hd]
      rfl
  off := fun k hk => by
    rw [List.length_append, List.length_singleton] at hk
    show (upd ds.pen (cs.length : Int) (blkB cs.length c) k <|> ds.syn k) = none
    unfold upd
    rw [if_neg (by omega), o.pen, o.off k (by omega)]
    rfl
  ns := by
    rw [List.length_append, List.length_singleton]
    have := o.ns
    show n' ≤ cs.length + 1
    omega
  c0 := by
    have := o.c0
    show 0 ≤ ds.calls + 1 + 1
    omega
  c1 := by
    rw [List.length_append, List.length_singleton]
    have := o.c1
    show ds.calls + 1 + 1 ≤ 2 * ((cs.length + 1 : Nat) : Int)
    omega
  few := by rw [List.length_append, List.length_singleton]; omega
  one := fun d hd => by
    rcases List.mem_append.1 hd with h | h
    · exact o.one d h
    · rw [List.mem_singleton.1 h]
      exact h1
section
variable {w0 w : World} {D bs bp L H : Nat} {lv sv : Value} {ds : DSt} {s : LSt} {cs : List CallP}
set_option maxRecDepth 100000 in
set_option maxHeartbeats 4000000 in
theorem lay_full {qs : List Addr} (hE : Errs w0 qs) (h : SLg w0 w D bs bp L H lv sv ds s) (o : DOk ds cs) (hn : s.n = cs.length) {c : CallP} (h1 : Call1 c) (k0 : c.kind = 0) {RA : Option Addr} {rn rc : Nat} {z : Bool} {T : Nat → Prop} (hr : Sl kRedo T w (.slice RA rn rc) c.recs) (hroom : ds.blocks ≤ (cs.length : Int)) :
    Calls Tryd.prog 28 #[.pointer (some ⟨L, 0, none⟩), .agg #[.int .i64 0, .int .i64 c.promise, .int .i64 c.installed, .int .i64 c.inc, .bool c.whole, .int .i64 c.floor, .slice none 0 0, .slice RA rn rc, .bool z]] w fun e w' => ∃ a, qs[8]? = some a ∧ e = .returned (errV a) ∧ Fr All w w' := by
  obtain ⟨a, ha⟩ := hE.get 8 (by decide)
  have F0 := (Fr.refl All w).alloc (.cells #[.int .i64 0, .int .i64 c.promise, .int .i64 c.installed, .int .i64 c.inc, .bool c.whole, .int .i64 c.floor, .slice none 0 0, .slice RA rn rc, .bool z] 64)
  have B0 := heap_alloc_new w (.cells #[.int .i64 0, .int .i64 c.promise, .int .i64 c.installed, .int .i64 c.inc, .bool c.whole, .int .i64 c.floor, .slice none 0 0, .slice RA rn rc, .bool z] 64)
  have hby := call_bytes (z := z) (hE.move (h.fr.trans F0)) (hr.all F0) h1.ok
  rw [k0] at hby
  have hbp := h1.pos
  have hbf := h1.fits
  obtain ⟨W0, hW0⟩ : ∃ W0, w.alloc (.cells #[.int .i64 0, .int .i64 c.promise, .int .i64 c.installed, .int .i64 c.inc, .bool c.whole, .int .i64 c.floor, .slice none 0 0, .slice RA rn rc, .bool z] 64) = W0 := ⟨_, rfl⟩
  rw [hW0] at F0 B0 hby
  have HB := Lib.hid hby
  have HG := Lib.hid (h.all F0)
  have O := Lib.hid o
  have HN := Lib.hid hn
  have HE := Lib.hid hE
  have HA := Lib.hid ha
  have HF0 := Lib.hid F0
  have e0 : W0.cell? ⟨w.heap.size, 0, none⟩ = some (.int .i64 0) := (blk_cells B0).1 0
  have e1 : W0.cell? ⟨w.heap.size, 1, none⟩ = some (.int .i64 c.promise) := (blk_cells B0).1 1
  have e2 : W0.cell? ⟨w.heap.size, 2, none⟩ = some (.int .i64 c.installed) := (blk_cells B0).1 2
  have e3 : W0.cell? ⟨w.heap.size, 3, none⟩ = some (.int .i64 c.inc) := (blk_cells B0).1 3
  have e4 : W0.cell? ⟨w.heap.size, 4, none⟩ = some (.bool c.whole) := (blk_cells B0).1 4
  have e5 : W0.cell? ⟨w.heap.size, 5, none⟩ = some (.int .i64 c.floor) := (blk_cells B0).1 5
  have e6 : W0.cell? ⟨w.heap.size, 6, none⟩ = some (.slice none 0 0) := (blk_cells B0).1 6
  have e7 : W0.cell? ⟨w.heap.size, 7, none⟩ = some (.slice RA rn rc) := (blk_cells B0).1 7
  have e8 : W0.cell? ⟨w.heap.size, 8, none⟩ = some (.bool z) := (blk_cells B0).1 8
  clear hby h o hn hE ha hr h1 k0 F0 B0
  go_enter Tryd.func28, Tryd.ntmps28
  go_wp2_with fail
  refine HB.out.mono ?_
  rintro e w1 ⟨A, m, rfl, ob, f1⟩
  have HG1 := Lib.hid (HG.out.all f1)
  have l0 : w1.cell? ⟨L, 0, none⟩ = some (.pointer (some ⟨D, 0, none⟩)) := (blk_cells HG1.out.lc).1 0
  have l8 : w1.cell? ⟨L, 8, none⟩ = some (.int .i64 (s.n : Int)) := (blk_cells HG1.out.lc).1 8
  have HF1 := Lib.hid (HF0.out.trans f1)
  clear hW0 e0 e1 e2 e3 e4 e5 e6 e7 e8 f1 ob
  go_upto_region 3 with fail
  rw [show ((c.bytes.length : Int) + 244 - 1) / 244 = 1 by omega]
  go_wp2_with fail
  refine (down_call HG1.out.dk.dk).mono ?_
  rintro e w2 ⟨rfl, hw2⟩
  obtain rfl := hw2.symm
  clear hw2
  rw [O.out.down]
  obtain ⟨N, hN⟩ : ∃ N, s.n = N := ⟨_, rfl⟩
  rw [hN] at l8
  have HNN := Lib.hid hN
  have hNc : N = cs.length := by rw [← hN]; exact HN.out
  clear hN
  subst hNc
  have gE : w1.cell? ⟨4, 0, none⟩ = some (.iface 151 (.pointer (some a))) := (HE.out.move HG1.out.fr).full HA.out
  have hd : decide ((1 : Int) > ds.blocks - (cs.length : Int)) = true := decide_eq_true (by omega)
  have hfit := O.out.fit
  have hb0 := O.out.b0
  have hb1 := O.out.b1
  go_upto_region 5 with fail
  go_quiet (exact Calls.quiet_of_same (blocks_call (HG1.out.dk.dk.all ((Fr.refl All w1).drewN _))))
  go_wp2_with fail
  go_ret
  exact ⟨a, HA.out, rfl, HF1.out.drewN _⟩
set_option maxRecDepth 100000 in
set_option maxHeartbeats 4000000 in
theorem lay_call {qs : List Addr} (hE : Errs w0 qs) (h : SLg w0 w D bs bp L H lv sv ds s) (o : DOk ds cs) (hn : s.n = cs.length) {c : CallP} (h1 : Call1 c) (k0 : c.kind = 0) {RA : Option Addr} {rn rc : Nat} {z : Bool} {T : Nat → Prop} (hr : Sl kRedo T w (.slice RA rn rc) c.recs) (hroom : (cs.length : Int) < ds.blocks) (hfew : cs.length < 1000) (hT : ∀ b, T b → b < w.heap.size → Off D bs bp b ∧ b ≠ L ∧ b ≠ H ∧ some b ≠ lv.ownBlock) (hf : FreshL s.hs c.recs) :
    Calls Tryd.prog 28 #[.pointer (some ⟨L, 0, none⟩), .agg #[.int .i64 0, .int .i64 c.promise, .int .i64 c.installed, .int .i64 c.inc, .bool c.whole, .int .i64 c.floor, .slice none 0 0, .slice RA rn rc, .bool z]] w fun e w' => e = .returned .nilIface ∧ ∃ ds' lv', SLg w0 w' D bs bp L H lv' sv ds' (s.does c) ∧ DOk ds' (cs ++ [c]) ∧ ds'.blocks = ds.blocks ∧ (∀ q, lv'.ownBlock = some q → lv.ownBlock = some q ∨ w.heap.size ≤ q) ∧ Fr (fun b => Off D bs bp b ∧ b ≠ L ∧ b ≠ H ∧ some b ≠ lv.ownBlock) w w' := by
  obtain ⟨a, ha⟩ := hE.get 8 (by decide)
  have F0 := (Fr.refl All w).alloc (.cells #[.int .i64 0, .int .i64 c.promise, .int .i64 c.installed, .int .i64 c.inc, .bool c.whole, .int .i64 c.floor, .slice none 0 0, .slice RA rn rc, .bool z] 64)
  have B0 := heap_alloc_new w (.cells #[.int .i64 0, .int .i64 c.promise, .int .i64 c.installed, .int .i64 c.inc, .bool c.whole, .int .i64 c.floor, .slice none 0 0, .slice RA rn rc, .bool z] 64)
  have hby := call_bytes (z := z) (hE.move (h.fr.trans F0)) (hr.all F0) h1.ok
  rw [k0] at hby
  have hbp := h1.pos
  have hbf := h1.fits
  obtain ⟨W0, hW0⟩ : ∃ W0, w.alloc (.cells #[.int .i64 0, .int .i64 c.promise, .int .i64 c.installed, .int .i64 c.inc, .bool c.whole, .int .i64 c.floor, .slice none 0 0, .slice RA rn rc, .bool z] 64) = W0 := ⟨_, rfl⟩
  rw [hW0] at F0 B0 hby
  have HB := Lib.hid hby
  have HG := Lib.hid (h.all F0)
  have O := Lib.hid o
  have HN := Lib.hid hn
  have HE := Lib.hid hE
  have HA := Lib.hid ha
  have HF0 := Lib.hid F0
  have HDW : Hid (D < w.heap.size ∧ bs < w.heap.size ∧ bp < w.heap.size ∧ L < w.heap.size ∧ H < w.heap.size) := Lib.hid ⟨h.dk.dk.lt, h.dk.dk.syn.lt, h.dk.dk.pen.lt, blk_lt h.lc, h.hg.lt⟩
  have HOW : Hid (∀ q, lv.ownBlock = some q → q < w.heap.size) := Lib.hid fun q hq => (own_lt h.hg.row q hq).2
  have HR0 := Lib.hid ((hr.mono (T := fun b => T b ∧ b < w.heap.size) fun b hb hl => ⟨hb, hl⟩).all F0)
  have HT := Lib.hid hT
  have HFL := Lib.hid hf
  have H1 := Lib.hid h1
  have K0 := Lib.hid k0
  have HBOX := Lib.hid B0
  have e0 : W0.cell? ⟨w.heap.size, 0, none⟩ = some (.int .i64 0) := (blk_cells B0).1 0
  have e1 : W0.cell? ⟨w.heap.size, 1, none⟩ = some (.int .i64 c.promise) := (blk_cells B0).1 1
  have e2 : W0.cell? ⟨w.heap.size, 2, none⟩ = some (.int .i64 c.installed) := (blk_cells B0).1 2
  have e3 : W0.cell? ⟨w.heap.size, 3, none⟩ = some (.int .i64 c.inc) := (blk_cells B0).1 3
  have e4 : W0.cell? ⟨w.heap.size, 4, none⟩ = some (.bool c.whole) := (blk_cells B0).1 4
  have e5 : W0.cell? ⟨w.heap.size, 5, none⟩ = some (.int .i64 c.floor) := (blk_cells B0).1 5
  have e6 : W0.cell? ⟨w.heap.size, 6, none⟩ = some (.slice none 0 0) := (blk_cells B0).1 6
  have e7 : W0.cell? ⟨w.heap.size, 7, none⟩ = some (.slice RA rn rc) := (blk_cells B0).1 7
  have e8 : W0.cell? ⟨w.heap.size, 8, none⟩ = some (.bool z) := (blk_cells B0).1 8
  clear hby h o hn hE ha hr h1 k0 F0 B0 hT hf
  go_enter Tryd.func28, Tryd.ntmps28
  go_wp2_with fail
  refine HB.out.mono ?_
  rintro e w1 ⟨A, m, rfl, ob, f1⟩
  have HG1 := Lib.hid (HG.out.all f1)
  have l0 : w1.cell? ⟨L, 0, none⟩ = some (.pointer (some ⟨D, 0, none⟩)) := (blk_cells HG1.out.lc).1 0
  have l8 : w1.cell? ⟨L, 8, none⟩ = some (.int .i64 (s.n : Int)) := (blk_cells HG1.out.lc).1 8
  have HF1 := Lib.hid (HF0.out.trans f1)
  have HR1 := Lib.hid (HR0.out.all f1)
  have HB1 := Lib.hid ((f1.block _ (blk_lt HBOX.out) trivial).trans HBOX.out)
  have HOB := Lib.hid ob
  have hw01 : w.heap.size < W0.heap.size := blk_lt HBOX.out
  clear hW0 e0 e1 e2 e3 e4 e5 e6 e7 e8 f1 ob
  go_upto_region 3 with fail
  rw [show ((c.bytes.length : Int) + 244 - 1) / 244 = 1 by omega]
  go_wp2_with fail
  refine (down_call HG1.out.dk.dk).mono ?_
  rintro e w2 ⟨rfl, hw2⟩
  obtain rfl := hw2.symm
  clear hw2
  rw [O.out.down]
  obtain ⟨N, hN⟩ : ∃ N, s.n = N := ⟨_, rfl⟩
  rw [hN] at l8
  have HNN := Lib.hid hN
  have hNc : N = cs.length := by rw [← hN]; exact HN.out
  clear hN
  subst hNc
  have hd : decide ((1 : Int) > ds.blocks - (cs.length : Int)) = false := decide_eq_false (by omega)
  have hb0 := O.out.b0
  have hb1 := O.out.b1
  go_upto_region 5 with fail
  go_quiet (exact Calls.quiet_of_same (blocks_call (HG1.out.dk.dk.all ((Fr.refl All w1).drewN _))))
  have FQ := (Fr.refl All w1).drewN nq
  have HG2 := Lib.hid (HG1.out.all FQ)
  have HF2 := Lib.hid (HF1.out.trans FQ)
  have HR2 := Lib.hid (HR1.out.all FQ)
  have HB2 := Lib.hid ((FQ.block _ (blk_lt HB1.out) trivial).trans HB1.out)
  have HOB2 := Lib.hid (HOB.out.all FQ)
  generalize hW2 : w1.drewN nq = W2 at *
  clear hW2 FQ HG1 HF1 HR1 HB1 HOB l0 l8
  have l0 : W2.cell? ⟨L, 0, none⟩ = some (.pointer (some ⟨D, 0, none⟩)) := (blk_cells HG2.out.lc).1 0
  have l8 : W2.cell? ⟨L, 8, none⟩ = some (.int .i64 (cs.length : Int)) := by rw [← HNN.out]; exact (blk_cells HG2.out.lc).1 8
  have l9 : W2.cell? ⟨L, 9, none⟩ = some (.int .i64 (cs.length : Int)) := by rw [← HNN.out]; exact (blk_cells HG2.out.lc).1 9
  go_upto_region 7 with fail
  clear hd
  go_wp2_with fail
  refine wp_loop_rounds 2 ?_
  rw [rounds_succ]
  go_wp2_with fail
  refine (four_call (n := cs.length) (Own.nil_ kByte 5 W2.heap.size All W2) (Nat.le_refl _) (by simp) (by omega)).mono ?_
  rintro e w3 ⟨v3, rfl, o3, f3⟩
  have F3 : Fr All W2 w3 := f3.mono fun b _ => by show some b ≠ none; simp
  go_wp2_with fail
  refine (four_call (n := 0) o3 F3.size (by simp [four_len]) (by omega)).mono ?_
  rintro e w4 ⟨v4, rfl, o4, f4⟩
  have F4 : Fr All W2 w4 := F3.row f4.grown fun q hq => (own_lt o3 q hq).1
  go_wp2_with fail
  refine (four_call (n := 1) o4 F4.size (by simp [four_len]) (by omega)).mono ?_
  rintro e w5 ⟨v5, rfl, o5, f5⟩
  have F5 : Fr All W2 w5 := F4.row f5.grown fun q hq => (own_lt o4 q hq).1
  have HO5 := Lib.hid o5
  have HF5 := Lib.hid F5
  have HOB5 := Lib.hid (HOB2.out.all F5)
  obtain ⟨x0, hx0, _⟩ := get_of (l := c.bytes) (k := 0) hbp
  obtain ⟨gb, og, rfl, _⟩ := HOB5.out.sl.at1 hx0
  have hcap : c.bytes.length ≤ m := by
    obtain ⟨A2, c2, he, h2, _⟩ := HOB5.out.sl
    obtain ⟨_, _, rfl⟩ := Value.slice.inj he
    exact h2
  have hm0 : m ≠ 0 := by omega
  have hmin : min (c.bytes.length : Int) 244 = (c.bytes.length : Int) := by omega
  clear o3 f3 F3 o4 f4 F4 o5 f5 F5 l0 l8 l9 hx0
  have HY : Src kByte Nowhere w5 (.slice (some ⟨gb, og, none⟩) c.bytes.length m) c.bytes := HOB5.out.src.any
  have hl6 : (((([] : List UInt8) ++ four cs.length) ++ four 0) ++ four 1).length + c.bytes.length ≤ 256 := by simp only [List.length_append, List.length_nil, four_len]; omega
  have hln : ((((([] : List UInt8) ++ four cs.length) ++ four 0) ++ four 1).length + c.bytes.length) * 1 ≤ 140737488355328 := by omega
  have HO5' := HO5.out
  have hs5 := HF5.out.size
  go_wp2_with (at_builtin; refine wpList_app rfl rfl Tryd.underlying34 info_u8 rfl (by decide) HO5' HY rfl rfl (fun _ h _ => h.elim) hln hs5 ?_; intro v6 w6 h6 g6 k6)
  have hbl : (((([] : List UInt8) ++ four cs.length) ++ four 0) ++ four 1) ++ c.bytes = blkB cs.length c := by unfold blkB; simp
  rw [hbl] at h6
  have hb256 : (blkB cs.length c).length ≤ 256 := by rw [← hbl, List.length_append]; exact hl6
  have HF6 : Hid (Fr All W2 w6) := Lib.hid (HF5.out.row g6.grown fun q hq => (own_lt HO5' q hq).1)
  have HG6 := Lib.hid (HG2.out.all HF6.out)
  have HR6 := Lib.hid (HR2.out.all HF6.out)
  have HB6 := Lib.hid ((HF6.out.block _ (blk_lt HB2.out) trivial).trans HB2.out)
  have HW6 := Lib.hid (HF2.out.trans HF6.out)
  have hDlt := HG2.out.dk.dk.lt
  have HV6 : Hid (Sl kByte (From W2.heap.size) w6 v6 (blkB cs.length c)) := Lib.hid (h6.plain_in fun b hb _ => hb)
  have l0 : w6.cell? ⟨L, 0, none⟩ = some (.pointer (some ⟨D, 0, none⟩)) := (blk_cells HG6.out.lc).1 0
  have l8 : w6.cell? ⟨L, 8, none⟩ = some (.int .i64 (cs.length : Int)) := by rw [← HNN.out]; exact (blk_cells HG6.out.lc).1 8
  clear h6 g6 k6 HO5' HY hln hl6 hs5 hbl
  go_upto_region 12 with fail
  refine wp_region_all (S := fun w' => w'.cell? ⟨L, 0, none⟩ = some (.pointer (some ⟨D, 0, none⟩)) ∧ w'.cell? ⟨L, 8, none⟩ = some (.int .i64 (cs.length : Int))) (by kernel_rfl) ⟨l0, l8⟩ (fun hHeld => ?_)
  refine wpAnyH_take (i := 0) (v := ?_) rfl (by kernel_rfl) (by kernel_rfl) (by kernel_rfl) (fun _ _ _ h => h) (Or.inl ⟨by rfl, ?_⟩) (by assumption) ?_
  rotate_left
  · (intro w hSw; (try dsimp only at hSw); go_simp; try with_reducible rfl)
  try simp only [List.getElem_toArray, List.getElem_cons_succ, List.getElem_cons_zero, Act.put, List.setIfInBounds_toArray, List.set_cons_succ, List.set_cons_zero]
  refine wpAnyH_take (i := 1) (v := ?_) rfl (by kernel_rfl) (by kernel_rfl) (by kernel_rfl) (fun _ _ _ h => h) (Or.inl ⟨by rfl, ?_⟩) (by assumption) ?_
  rotate_left
  · (intro w hSw; (try dsimp only at hSw); go_simp; try with_reducible rfl)
  try simp only [List.getElem_toArray, List.getElem_cons_succ, List.getElem_cons_zero, Act.put, List.setIfInBounds_toArray, List.set_cons_succ, List.set_cons_zero]
  refine wpAnyH_take (i := 2) (v := ?_) rfl (by kernel_rfl) (by kernel_rfl) (by kernel_rfl) (fun _ _ _ h => h) (Or.inl ⟨by rfl, ?_⟩) (by assumption) ?_
  rotate_left
  · (intro w hSw; (try dsimp only at hSw); go_simp; try with_reducible rfl)
  try simp only [List.getElem_toArray, List.getElem_cons_succ, List.getElem_cons_zero, Act.put, List.setIfInBounds_toArray, List.set_cons_succ, List.set_cons_zero]
  refine wpAnyH_take (i := 3) (v := ?_) rfl (by kernel_rfl) (by kernel_rfl) (by kernel_rfl) (fun _ _ _ h => h) (Or.inl ⟨by rfl, ?_⟩) (by assumption) ?_
  rotate_left
  · (intro w hSw; (try dsimp only at hSw); go_simp; try with_reducible rfl)
  try simp only [List.getElem_toArray, List.getElem_cons_succ, List.getElem_cons_zero, Act.put, List.setIfInBounds_toArray, List.set_cons_succ, List.set_cons_zero]
  refine wpAnyH_take (i := 4) (v := ?_) rfl (by kernel_rfl) (by kernel_rfl) (by kernel_rfl) (fun _ _ _ h => h) (Or.inl ⟨by rfl, ?_⟩) (by assumption) ?_
  rotate_left
  · (intro w hSw; (try dsimp only at hSw); go_simp; try with_reducible rfl)
  try simp only [List.getElem_toArray, List.getElem_cons_succ, List.getElem_cons_zero, Act.put, List.setIfInBounds_toArray, List.set_cons_succ, List.set_cons_zero]
  refine wpAnyH_take (i := 5) (v := ?_) rfl (by kernel_rfl) (by kernel_rfl) (by kernel_rfl) (fun _ _ _ h => h) (Or.inl ⟨by rfl, ?_⟩) (by assumption) ?_
  rotate_left
  · (intro w hSw; (try dsimp only at hSw); go_simp; try with_reducible rfl)
  try simp only [List.getElem_toArray, List.getElem_cons_succ, List.getElem_cons_zero, Act.put, List.setIfInBounds_toArray, List.set_cons_succ, List.set_cons_zero]
  refine wpAnyH_take (i := 6) (v := ?_) rfl (by kernel_rfl) (by kernel_rfl) (by kernel_rfl) (fun _ _ _ h => h) (Or.inl ⟨by rfl, ?_⟩) (by assumption) ?_
  rotate_left
  · (intro w hSw; (try dsimp only at hSw); go_simp; try with_reducible rfl)
  try simp only [List.getElem_toArray, List.getElem_cons_succ, List.getElem_cons_zero, Act.put, List.setIfInBounds_toArray, List.set_cons_succ, List.set_cons_zero]
  refine wpAnyH_take (i := 7) (v := ?_) rfl (by kernel_rfl) (by kernel_rfl) (by kernel_rfl) (fun _ _ _ h => h) (Or.inl ⟨by rfl, ?_⟩) (by assumption) ?_
  rotate_left
  · (intro w hSw; (try dsimp only at hSw); go_simp; try with_reducible rfl)
  try simp only [List.getElem_toArray, List.getElem_cons_succ, List.getElem_cons_zero, Act.put, List.setIfInBounds_toArray, List.set_cons_succ, List.set_cons_zero]
  refine wpAnyH_take (i := 8) (v := ?_) rfl (by kernel_rfl) (by kernel_rfl) (by kernel_rfl) (fun _ _ _ h => h) (Or.inl ⟨by rfl, ?_⟩) (by assumption) ?_
  rotate_left
  · (intro w hSw; (try dsimp only at hSw); go_simp; try with_reducible rfl)
  try simp only [List.getElem_toArray, List.getElem_cons_succ, List.getElem_cons_zero, Act.put, List.setIfInBounds_toArray, List.set_cons_succ, List.set_cons_zero]
  refine wpAnyH_take (i := 9) (v := ?_) rfl (by kernel_rfl) (by kernel_rfl) (by kernel_rfl) (fun _ _ _ h => h) (Or.inl ⟨by rfl, ?_⟩) (by assumption) ?_
  rotate_left
  · (intro w hSw; (try dsimp only at hSw); go_simp; try with_reducible rfl)
  try simp only [List.getElem_toArray, List.getElem_cons_succ, List.getElem_cons_zero, Act.put, List.setIfInBounds_toArray, List.set_cons_succ, List.set_cons_zero]
  refine wpAnyH_take (i := 10) (v := ?_) rfl (by kernel_rfl) (by kernel_rfl) (by kernel_rfl) (fun _ _ _ h => h) (Or.inl ⟨by rfl, ?_⟩) (by assumption) ?_
  rotate_left
  · (intro w hSw; (try dsimp only at hSw); go_simp; try with_reducible rfl)
  try simp only [List.getElem_toArray, List.getElem_cons_succ, List.getElem_cons_zero, Act.put, List.setIfInBounds_toArray, List.set_cons_succ, List.set_cons_zero]
  refine wpAnyH_ready (rs := [11]) (by kernel_rfl) (by simp) (AllReadyH.cons rfl (fun K hK => ?_) AllReadyH.nil)
  go_simp
  rw [show IntKind.i64.wrap (cs.length : Int) = (cs.length : Int) from IntWalk.i64_in _ (by omega)]
  refine (held_write (i := (cs.length : Int)) (HG6.out.dk.all (Fr.refl All w6).drew) (HV6.out.all (Fr.refl All w6).drew) (fun b (hb : W2.heap.size ≤ b) _ => by omega) O.out.arm O.out.down (by omega) hroom hb1 hb256 (by rw [O.out.np]; omega) O.out.c0 (by have := O.out.c1; have := O.out.few; omega)).mono ?_
  rintro e w7 ⟨rfl, h7, f7⟩
  go_simp
  have HG7 := Lib.hid ((HG6.out.all (Fr.refl All w6).drew).disk f7 h7)
  have F67 : Fr (Off D bs bp) w6 w7 := (Fr.refl _ w6).drew.trans f7
  have HR7 := Lib.hid (HR6.out.move' F67 fun b hb _ => (HT.out b hb.1 hb.2).1)
  have hOw : Off D bs bp w.heap.size := by
    have h1 := HDW.out
    exact ⟨by omega, by omega, by omega⟩
  have HB7 := Lib.hid ((F67.block _ (blk_lt HB6.out) hOw).trans HB6.out)
  refine hK.out _ _ ⟨(blk_cells HG7.out.lc).1 0, by rw [← HNN.out]; exact (blk_cells HG7.out.lc).1 8⟩ (fun hHeld => ?_)
  clear hK K
  try simp only [List.getElem_toArray, List.getElem_cons_succ, List.getElem_cons_zero, Act.put, List.setIfInBounds_toArray, List.set_cons_succ, List.set_cons_zero]
  refine wpAnyH_take (i := 12) (v := ?_) rfl (by kernel_rfl) (by kernel_rfl) (by kernel_rfl) (fun _ _ _ h => h) (Or.inl ⟨by rfl, ?_⟩) (by assumption) ?_
  rotate_left
  · (intro w hSw; (try dsimp only at hSw); go_simp; try with_reducible rfl)
  try simp only [List.getElem_toArray, List.getElem_cons_succ, List.getElem_cons_zero, Act.put, List.setIfInBounds_toArray, List.set_cons_succ, List.set_cons_zero]
  clear hHeld l0 l8 h7 f7
  refine wpAnyH_done (by kernel_rfl) ?_ _
  have l0 : w7.cell? ⟨L, 0, none⟩ = some (.pointer (some ⟨D, 0, none⟩)) := (blk_cells HG7.out.lc).1 0
  go_wp2_with fail
  rw [rounds_succ]
  go_wp2_with fail
  have hpn : (ds.put (cs.length : Int) (blkB cs.length c)).np = 1 := by
    show (if (ds.pen (cs.length : Int)).isSome then ds.np else ds.np + 1) = 1
    rw [O.out.pen, O.out.np]
    rfl
  refine (held_sync HG7.out.dk O.out.arm O.out.down (by rw [hpn]; show ds.ns + 1 ≤ 100000; have := O.out.ns; omega) (by show 0 ≤ ds.calls + 1; have := O.out.c0; omega) (by show ds.calls + 1 ≤ 1000000; have := O.out.c1; omega)).mono ?_
  rintro e w8 ⟨n', rfl, hn', h8, f8⟩
  have HG8 := Lib.hid (HG7.out.disk f8 h8)
  have HR8 := Lib.hid (HR7.out.move' f8 fun b hb _ => (HT.out b hb.1 hb.2).1)
  have HB8 := Lib.hid ((f8.block _ (blk_lt HB7.out) hOw).trans HB7.out)
  have HF8 : Hid (Fr (Off D bs bp) w w8) := Lib.hid (((HW6.out.mono fun _ _ => trivial).trans F67).trans f8)
  have HNP : Hid (n' ≤ ds.ns + 1) := Lib.hid (by rw [hpn] at hn'; exact hn')
  have HT8 : Hid (∀ b, (T b ∧ b < w.heap.size) → b < w8.heap.size → b ≠ H ∧ some b ≠ lv.ownBlock) := Lib.hid fun b hb _ => ⟨(HT.out b hb.1 hb.2).2.2.1, (HT.out b hb.1 hb.2).2.2.2⟩
  have H40 : Hid (rn ≤ 1000) := Lib.hid (by have h1 := HR8.out.len; have h2 := H1.out.ok.rl; omega)
  have e0 : w8.cell? ⟨w.heap.size, 0, none⟩ = some (.int .i64 0) := (blk_cells HB8.out).1 0
  have e1 : w8.cell? ⟨w.heap.size, 1, none⟩ = some (.int .i64 c.promise) := (blk_cells HB8.out).1 1
  have e2 : w8.cell? ⟨w.heap.size, 2, none⟩ = some (.int .i64 c.installed) := (blk_cells HB8.out).1 2
  have e3 : w8.cell? ⟨w.heap.size, 3, none⟩ = some (.int .i64 c.inc) := (blk_cells HB8.out).1 3
  have e4 : w8.cell? ⟨w.heap.size, 4, none⟩ = some (.bool c.whole) := (blk_cells HB8.out).1 4
  have e5 : w8.cell? ⟨w.heap.size, 5, none⟩ = some (.int .i64 c.floor) := (blk_cells HB8.out).1 5
  have e6 : w8.cell? ⟨w.heap.size, 6, none⟩ = some (.slice none 0 0) := (blk_cells HB8.out).1 6
  have e7 : w8.cell? ⟨w.heap.size, 7, none⟩ = some (.slice RA rn rc) := (blk_cells HB8.out).1 7
  have e8 : w8.cell? ⟨w.heap.size, 8, none⟩ = some (.bool z) := (blk_cells HB8.out).1 8
  clear hpn hn' h8 f8 F67 hOw l0
  go_wp2_with fail
  refine (do_recs (c := c) HG8.out HR8.out HT8.out HFL.out H40.out).mono ?_
  rintro e w9 ⟨rfl, ⟨lv9, h9, ho9⟩, f9⟩
  have l8 : w9.cell? ⟨L, 8, none⟩ = some (.int .i64 (cs.length : Int)) := by rw [← HNN.out]; exact (blk_cells h9.lc).1 8
  have l9 : w9.cell? ⟨L, 9, none⟩ = some (.int .i64 (cs.length : Int)) := by rw [← HNN.out]; exact (blk_cells h9.lc).1 9
  have lz := (blk_cells h9.lc).2
  have H9 := Lib.hid h9
  have HO9 := Lib.hid ho9
  have HF9 := Lib.hid f9
  clear e0 e1 e2 e3 e4 e5 e6 e7 e8 h9 ho9 f9
  go_wp2_with fail
  go_ret
  have hv : ((cs.length : Int) + 1) = ((s.n + 1 : Nat) : Int) := by rw [HNN.out]; omega
  rw [hv]
  have gL : Fr (fun b => b ≠ L) w9 ((w9.setCell ⟨L, 8, none⟩ (.int .i64 ((s.n + 1 : Nat) : Int))).setCell ⟨L, 9, none⟩ (.int .i64 ((s.n + 1 : Nat) : Int))) := ((Fr.refl _ _).setCell (fun m hm => by exact hm) _).setCell (fun m hm => by exact hm) _
  refine ⟨rfl, _, lv9, ?_, O.out.lay H1.out hroom hfew HNP.out, rfl, fun q hq => ?_, ((HF8.out.mono fun b hb => hb.1).trans (HF9.out.mono fun b hb => hb.2.2)).trans (gL.mono fun b hb => hb.2.1)⟩
  · rw [does0 K0.out]
    exact H9.out.own gL rfl (heap_setCell_same _ _ 9 _ _ _ (heap_setCell_same _ _ 8 _ _ _ H9.out.lc))
  · rcases HO9.out q hq with h | h
    · exact .inl h
    · exact .inr (Nat.le_trans HF8.out.size h)
end
end Go.Proofs.YteclgcnndjcmmaaDoor
namespace Go.Proofs.YteclgcnndjcmmaaDoor
open Go.RowKit Go.Maps

/-- The call of one record. -/
def call1 (r : Redo) : CallP := ⟨0, 0, 0, 0, false, 0, [r]⟩
section
variable {w0 w : World} {D bs bp L H : Nat} {lv sv : Value} {ds : DSt} {s : LSt} {cs : List CallP}
set_option hygiene false in
set_option maxRecDepth 100000 in
set_option maxHeartbeats 4000000 in
theorem records_full {qs : List Addr} (hE : Errs w0 qs) (h : SLg w0 w D bs bp L H lv sv ds s) (o : DOk ds cs) (hn : s.n = cs.length) {r : Redo} (hv : validIx r = none) (hg : r.group = s.hs.group) (hd : deadS s.hs.spans r.lsn r.epoch = false) (hnew : isL s.hs.l r.lsn = false) (hlen : s.hs.l.length < 16384) (hfit : Call1 (call1 r)) {RA : Option Addr} {rc : Nat} {T : Nat → Prop} (hr : Sl kRedo T w (.slice RA 1 rc) [r]) (hT : ∀ b, T b → b < w.heap.size → Off D bs bp b ∧ b ≠ L ∧ b ≠ H ∧ some b ≠ lv.ownBlock) (hroom : ds.blocks ≤ (cs.length : Int)) :
    Calls Tryd.prog 10 #[.pointer (some ⟨L, 0, none⟩), .slice RA 1 rc] w fun e w' => ∃ a, qs[8]? = some a ∧ e = .returned (.tuple #[.int .i64 0, errV a]) ∧ Fr All w w' := by
  obtain ⟨b, o1, X0, m0, d0, X1, m1, d1, rfl, g0, g1, g2, g3, g4, g5, g6, g7, g8, g9, t0, t1⟩ := redo_at hr (k := 0) (x := r) rfl
  simp only [Nat.zero_mul, Nat.add_zero] at g0 g1 g2 g3 g4 g5 g6 g7 g8 g9
  have l7 : w.cell? ⟨L, 7, none⟩ = some (.pointer (some ⟨H, 0, none⟩)) := (blk_cells h.lc).1 7
  have HG := Lib.hid h
  have O := Lib.hid o
  have HN := Lib.hid hn
  have HE := Lib.hid hE
  have HV := Lib.hid hv
  have HGr := Lib.hid hg
  have HDe := Lib.hid hd
  have HNw := Lib.hid hnew
  have HLn := Lib.hid hlen
  have HFt := Lib.hid hfit
  have HT := Lib.hid hT
  have HDW : Hid (D < w.heap.size ∧ bs < w.heap.size ∧ bp < w.heap.size ∧ L < w.heap.size ∧ H < w.heap.size) := Lib.hid ⟨h.dk.dk.lt, h.dk.dk.syn.lt, h.dk.dk.pen.lt, blk_lt h.lc, h.hg.lt⟩
  have HOW : Hid (∀ q, lv.ownBlock = some q → q < w.heap.size) := Lib.hid fun q hq => (own_lt h.hg.row q hq).2
  have T0 := Lib.hid (t0.mono (T := fun b => T b ∧ b < w.heap.size) fun b hb hl => ⟨hb, hl⟩)
  have T1 := Lib.hid (t1.mono (T := fun b => T b ∧ b < w.heap.size) fun b hb hl => ⟨hb, hl⟩)
  have G0 := Lib.hid (And.intro g0 (And.intro g1 (And.intro g2 (And.intro g3 (And.intro g4 (And.intro g5 (And.intro g6 (And.intro g7 (And.intro g8 g9)))))))))
  clear h o hn hE hv hg hd hnew hlen hfit hT hr t0 t1 g0 g1 g2 g3 g4 g5 g6 g7 g8 g9
  go_enter Tryd.func10, Tryd.ntmps10
  go_wp2_with fail
  refine (hot_clone HG.out.hg).mono ?_
  rintro e w1 ⟨lv1, sv1, rfl, hc1, hown1, f1⟩
  have HC1 := Lib.hid hc1
  have HF1 := Lib.hid f1
  have HOL : Hid (∀ k, lv1.ownBlock = some k → w.heap.size < k ∧ k < w1.heap.size) := Lib.hid fun k hk => ⟨hown1 k hk, (own_lt hc1.row k hk).2⟩
  clear l7 hc1
  go_upto_region 3 with fail
  refine wp_name ?_
  intro W2 hW2
  have F2 : Fr All w1 W2 := by rw [hW2]; exact (Fr.refl All w1).alloc _
  have BC : W2.heap[w1.heap.size]? = some (.cells #[.int .i64 0, .int .i64 0, .int .i64 0, .int .i64 0, .bool false, .int .i64 0, .slice none 0 0, .slice none 0 0, .bool false] 64 (0, 0)) := by rw [hW2]; exact heap_alloc_new w1 _
  have HC2 := Lib.hid (HC1.out.all F2)
  have HF2 := Lib.hid (HF1.out.trans F2)
  have HBC := Lib.hid BC
  have hcl : w.heap.size < w1.heap.size := HC1.out.lt
  have g0 := HF2.out.cell trivial G0.out.1
  have g1 := HF2.out.cell trivial G0.out.2.1
  have g2 := HF2.out.cell trivial G0.out.2.2.1
  have g3 := HF2.out.cell trivial G0.out.2.2.2.1
  have g4 := HF2.out.cell trivial G0.out.2.2.2.2.1
  have g5 := HF2.out.cell trivial G0.out.2.2.2.2.2.1
  have g6 := HF2.out.cell trivial G0.out.2.2.2.2.2.2.1
  have g7 := HF2.out.cell trivial G0.out.2.2.2.2.2.2.2.1
  have g8 := HF2.out.cell trivial G0.out.2.2.2.2.2.2.2.2.1
  have g9 := HF2.out.cell trivial G0.out.2.2.2.2.2.2.2.2.2
  clear hW2 F2 BC HC1 HF1 f1 hown1
  go_wp2_with fail
  refine wp_loop_rounds 2 ?_
  rw [rounds_succ]
  go_upto_region 6 with fail
  refine wp_name ?_
  intro W3 hW3
  have F3 : Fr All W2 W3 := by rw [hW3]; exact (Fr.refl All W2).alloc _
  have BX : W3.heap[W2.heap.size]? = some (.cells #[.int .i64 r.lsn, .int .i64 r.back, .int .i64 r.epoch, .int .i64 r.group, .int .i64 r.page, .int .i64 r.kind, .int .i64 r.slot, .slice X0 m0 d0, .slice X1 m1 d1, .bool r.last] 36 (0, 0)) := by rw [hW3]; exact heap_alloc_new W2 _
  have HBX := Lib.hid BX
  have HF3 := Lib.hid (HF2.out.trans F3)
  have HBC3 := Lib.hid ((F3.block _ (blk_lt HBC.out) trivial).trans HBC.out)
  have HC3 := Lib.hid (HC2.out.all F3)
  have hs3 : w1.heap.size < W3.heap.size := blk_lt HBC3.out
  have e0 : W3.cell? ⟨W2.heap.size, 0, none⟩ = some (.int .i64 r.lsn) := (blk_cells HBX.out).1 0
  have e1 : W3.cell? ⟨W2.heap.size, 1, none⟩ = some (.int .i64 r.back) := (blk_cells HBX.out).1 1
  have e2 : W3.cell? ⟨W2.heap.size, 2, none⟩ = some (.int .i64 r.epoch) := (blk_cells HBX.out).1 2
  have e3 : W3.cell? ⟨W2.heap.size, 3, none⟩ = some (.int .i64 r.group) := (blk_cells HBX.out).1 3
  have e4 : W3.cell? ⟨W2.heap.size, 4, none⟩ = some (.int .i64 r.page) := (blk_cells HBX.out).1 4
  have e5 : W3.cell? ⟨W2.heap.size, 5, none⟩ = some (.int .i64 r.kind) := (blk_cells HBX.out).1 5
  have e6 : W3.cell? ⟨W2.heap.size, 6, none⟩ = some (.int .i64 r.slot) := (blk_cells HBX.out).1 6
  have e7 : W3.cell? ⟨W2.heap.size, 7, none⟩ = some (.slice X0 m0 d0) := (blk_cells HBX.out).1 7
  have e8 : W3.cell? ⟨W2.heap.size, 8, none⟩ = some (.slice X1 m1 d1) := (blk_cells HBX.out).1 8
  have e9 : W3.cell? ⟨W2.heap.size, 9, none⟩ = some (.bool r.last) := (blk_cells HBX.out).1 9
  clear g0 g1 g2 g3 g4 g5 g6 g7 g8 g9 hW3 F3 BX
  go_wp2_with fail
  refine (add_new HC3.out (T0.out.all HF3.out) (T1.out.all HF3.out) HV.out HGr.out HDe.out HNw.out HLn.out).mono ?_
  rintro e w4 ⟨rfl, hn4⟩
  obtain ⟨lv4, _, f4, _⟩ := hn4.out
  have HF4 : Hid (Fr All w w4) := Lib.hid ⟨f4.os.trans HF3.out.os, f4.tape.trans HF3.out.tape, f4.output.trans HF3.out.output, Nat.le_trans HF3.out.size f4.size, fun b hb _ => (f4.block b (Nat.lt_of_lt_of_le hb HF3.out.size) ⟨by omega, fun e => by have := HOL.out b e.symm; omega⟩).trans (HF3.out.block b hb trivial)⟩
  have BC4 := (f4.block w1.heap.size (blk_lt HBC3.out) ⟨by omega, fun e => by have := (HOL.out _ e.symm).2; omega⟩).trans HBC3.out
  have hW2s : w1.heap.size < W2.heap.size := blk_lt HBC.out
  have BX4 := (f4.block W2.heap.size (blk_lt HBX.out) ⟨by omega, fun e => by have := (HOL.out _ e.symm).2; omega⟩).trans HBX.out
  have hs4 : W3.heap.size ≤ w4.heap.size := f4.size
  clear e0 e1 e2 e3 e4 e5 e6 e7 e8 e9 hn4 f4
  have e0 : w4.cell? ⟨W2.heap.size, 0, none⟩ = some (.int .i64 r.lsn) := (blk_cells BX4).1 0
  have e1 : w4.cell? ⟨W2.heap.size, 1, none⟩ = some (.int .i64 r.back) := (blk_cells BX4).1 1
  have e2 : w4.cell? ⟨W2.heap.size, 2, none⟩ = some (.int .i64 r.epoch) := (blk_cells BX4).1 2
  have e3 : w4.cell? ⟨W2.heap.size, 3, none⟩ = some (.int .i64 r.group) := (blk_cells BX4).1 3
  have e4 : w4.cell? ⟨W2.heap.size, 4, none⟩ = some (.int .i64 r.page) := (blk_cells BX4).1 4
  have e5 : w4.cell? ⟨W2.heap.size, 5, none⟩ = some (.int .i64 r.kind) := (blk_cells BX4).1 5
  have e6 : w4.cell? ⟨W2.heap.size, 6, none⟩ = some (.int .i64 r.slot) := (blk_cells BX4).1 6
  have e7 : w4.cell? ⟨W2.heap.size, 7, none⟩ = some (.slice X0 m0 d0) := (blk_cells BX4).1 7
  have e8 : w4.cell? ⟨W2.heap.size, 8, none⟩ = some (.slice X1 m1 d1) := (blk_cells BX4).1 8
  have e9 : w4.cell? ⟨W2.heap.size, 9, none⟩ = some (.bool r.last) := (blk_cells BX4).1 9
  have c7 : w4.cell? ⟨w1.heap.size, 7, none⟩ = some (.slice none 0 0) := (blk_cells BC4).1 7
  have cz : ∀ j, w4.frozen? ⟨w1.heap.size, j, none⟩ = false := (blk_cells BC4).2
  have FA := (Fr.refl All w4).alloc (.cells #[.int .i64 r.lsn, .int .i64 r.back, .int .i64 r.epoch, .int .i64 r.group, .int .i64 r.page, .int .i64 r.kind, .int .i64 r.slot, .slice X0 m0 d0, .slice X1 m1 d1, .bool r.last] 36)
  have HO0 : Own kRedo 36 w4.heap.size (fun b => T b ∧ b < w.heap.size) (w4.alloc (.cells #[.int .i64 r.lsn, .int .i64 r.back, .int .i64 r.epoch, .int .i64 r.group, .int .i64 r.page, .int .i64 r.kind, .int .i64 r.slot, .slice X0 m0 d0, .slice X1 m1 d1, .bool r.last] 36)) (.slice none 0 0) [] := Own.nil_ _ _ _ _ _
  have HY := Src.box (d := kRedo) (x := r) (kRedo_mk (T0.out.all HF4.out) (T1.out.all HF4.out)) 36 1
  change Src kRedo _ (w4.alloc (.cells #[.int .i64 r.lsn, .int .i64 r.back, .int .i64 r.epoch, .int .i64 r.group, .int .i64 r.page, .int .i64 r.kind, .int .i64 r.slot, .slice X0 m0 d0, .slice X1 m1 d1, .bool r.last] 36)) _ _ at HY
  have BC5 := (FA.block _ (blk_lt BC4) trivial).trans BC4
  go_wp2_with (at_builtin; refine wpList_app rfl rfl Tryd.underlying54 infoRedo rfl (by decide) HO0 HY rfl rfl (fun b hb _ => ⟨hb, by show some b ≠ none; simp⟩) (by simp) FA.size ?_; intro v6 w6 h60 g6 k6; have h6 : Own kRedo 36 w4.heap.size (fun b => T b ∧ b < w.heap.size) w6 v6 [r] := h60; obtain ⟨A6, c6, hv6⟩ := h6.length; change v6 = .slice A6 1 c6 at hv6; subst hv6; have BC6 := (g6.block _ (blk_lt BC5) (by show some _ ≠ none; simp)).trans BC5; have d7 : w6.cell? ⟨w1.heap.size, 7, none⟩ = some (.slice none 0 0) := (blk_cells BC6).1 7; have dz := (blk_cells BC6).2)
  rw [rounds_succ]
  go_upto_region 12 with fail
  refine wp_name ?_
  intro W7 hW7
  have gB : Fr (fun b => b ≠ w1.heap.size) w6 W7 := by rw [hW7]; exact (Fr.refl _ _).setCell (fun m hm => by exact hm) _
  have BC7 : W7.heap[w1.heap.size]? = some (.cells #[.int .i64 0, .int .i64 0, .int .i64 0, .int .i64 0, .bool false, .int .i64 0, .slice none 0 0, .slice A6 1 c6, .bool false] 64 (0, 0)) := by rw [hW7]; exact heap_setCell_same _ _ 7 _ _ _ BC6
  have hA6 : ∀ q, (Value.slice A6 1 c6).ownBlock = some q → w4.heap.size ≤ q := fun q hq => (own_lt h6 q hq).1
  have HR7 : Hid (Sl kRedo (fun b => w4.heap.size ≤ b ∨ (T b ∧ b < w.heap.size)) W7 (.slice A6 1 c6) [r]) := Lib.hid ((h6.sl_in (T := fun b => w4.heap.size ≤ b ∨ (T b ∧ b < w.heap.size)) (fun b hb _ => .inr hb) (fun b hb _ => .inl hb)).move' gB fun b hb _ => by
    show b ≠ w1.heap.size
    rcases hb with hb | hb
    · omega
    · have := hb.2; omega)
  have HF7 : Hid (Fr All w W7) := Lib.hid ((((HF4.out.trans FA).row g6.grown (fun q hq => by cases hq))).newest (by omega) gB)
  have HG7 := Lib.hid (HG.out.all HF7.out)
  have HT7 : Hid (∀ b, (w4.heap.size ≤ b ∨ (T b ∧ b < w.heap.size)) → b < W7.heap.size → Off D bs bp b ∧ b ≠ L ∧ b ≠ H ∧ some b ≠ lv.ownBlock) := Lib.hid fun b hb _ => by
    rcases hb with hb | hb
    · have h1 := HDW.out
      exact ⟨⟨by omega, by omega, by omega⟩, by omega, by omega, fun e => by have := HOW.out b e.symm; omega⟩
    · exact HT.out b hb.1 hb.2
  have HBC7 := Lib.hid BC7
  have y0 : W7.cell? ⟨w1.heap.size, 0, none⟩ = some (.int .i64 0) := (blk_cells HBC7.out).1 0
  have y1 : W7.cell? ⟨w1.heap.size, 1, none⟩ = some (.int .i64 0) := (blk_cells HBC7.out).1 1
  have y2 : W7.cell? ⟨w1.heap.size, 2, none⟩ = some (.int .i64 0) := (blk_cells HBC7.out).1 2
  have y3 : W7.cell? ⟨w1.heap.size, 3, none⟩ = some (.int .i64 0) := (blk_cells HBC7.out).1 3
  have y4 : W7.cell? ⟨w1.heap.size, 4, none⟩ = some (.bool false) := (blk_cells HBC7.out).1 4
  have y5 : W7.cell? ⟨w1.heap.size, 5, none⟩ = some (.int .i64 0) := (blk_cells HBC7.out).1 5
  have y6 : W7.cell? ⟨w1.heap.size, 6, none⟩ = some (.slice none 0 0) := (blk_cells HBC7.out).1 6
  have y7 : W7.cell? ⟨w1.heap.size, 7, none⟩ = some (.slice A6 1 c6) := (blk_cells HBC7.out).1 7
  have y8 : W7.cell? ⟨w1.heap.size, 8, none⟩ = some (.bool false) := (blk_cells HBC7.out).1 8
  clear hW7 gB BC7 h60 h6 g6 k6 BC6 d7 dz HO0 HY BC5 FA BC4 BX4 hA6 c7 cz e0 e1 e2 e3 e4 e5 e6 e7 e8 e9
  go_wp2_with fail
  refine (lay_full (c := call1 r) HE.out HG7.out O.out HN.out HFt.out rfl HR7.out hroom).mono ?_
  rintro e w8 ⟨a, ha, rfl, f8⟩
  have HF8 := Lib.hid (HF7.out.trans f8)
  have HA := Lib.hid ha
  clear y0 y1 y2 y3 y4 y5 y6 y7 y8 f8 ha
  unfold errV
  go_wp2_with fail
  go_ret2
  exact ⟨a, HA.out, rfl, HF8.out⟩
set_option hygiene false in
set_option maxRecDepth 100000 in
set_option maxHeartbeats 4000000 in
theorem records_call {qs : List Addr} (hE : Errs w0 qs) (h : SLg w0 w D bs bp L H lv sv ds s) (o : DOk ds cs) (hn : s.n = cs.length) {r : Redo} (hv : validIx r = none) (hg : r.group = s.hs.group) (hd : deadS s.hs.spans r.lsn r.epoch = false) (hnew : isL s.hs.l r.lsn = false) (hlen : s.hs.l.length < 16384) (hfit : Call1 (call1 r)) {RA : Option Addr} {rc : Nat} {T : Nat → Prop} (hr : Sl kRedo T w (.slice RA 1 rc) [r]) (hT : ∀ b, T b → b < w.heap.size → Off D bs bp b ∧ b ≠ L ∧ b ≠ H ∧ some b ≠ lv.ownBlock) (hroom : (cs.length : Int) < ds.blocks) (hfew : cs.length < 1000) :
    Calls Tryd.prog 10 #[.pointer (some ⟨L, 0, none⟩), .slice RA 1 rc] w fun e w' => e = .returned (.tuple #[.int .i64 1, .nilIface]) ∧ ∃ ds' lv', SLg w0 w' D bs bp L H lv' sv ds' (s.does (call1 r)) ∧ DOk ds' (cs ++ [call1 r]) ∧ ds'.blocks = ds.blocks ∧ (∀ q, lv'.ownBlock = some q → lv.ownBlock = some q ∨ w.heap.size ≤ q) ∧ Fr (fun b => Off D bs bp b ∧ b ≠ L ∧ b ≠ H ∧ some b ≠ lv.ownBlock) w w' := by
  obtain ⟨b, o1, X0, m0, d0, X1, m1, d1, rfl, g0, g1, g2, g3, g4, g5, g6, g7, g8, g9, t0, t1⟩ := redo_at hr (k := 0) (x := r) rfl
  simp only [Nat.zero_mul, Nat.add_zero] at g0 g1 g2 g3 g4 g5 g6 g7 g8 g9
  have l7 : w.cell? ⟨L, 7, none⟩ = some (.pointer (some ⟨H, 0, none⟩)) := (blk_cells h.lc).1 7
  have HG := Lib.hid h
  have O := Lib.hid o
  have HN := Lib.hid hn
  have HE := Lib.hid hE
  have HV := Lib.hid hv
  have HGr := Lib.hid hg
  have HDe := Lib.hid hd
  have HNw := Lib.hid hnew
  have HLn := Lib.hid hlen
  have HFt := Lib.hid hfit
  have HT := Lib.hid hT
  have HDW : Hid (D < w.heap.size ∧ bs < w.heap.size ∧ bp < w.heap.size ∧ L < w.heap.size ∧ H < w.heap.size) := Lib.hid ⟨h.dk.dk.lt, h.dk.dk.syn.lt, h.dk.dk.pen.lt, blk_lt h.lc, h.hg.lt⟩
  have HOW : Hid (∀ q, lv.ownBlock = some q → q < w.heap.size) := Lib.hid fun q hq => (own_lt h.hg.row q hq).2
  have T0 := Lib.hid (t0.mono (T := fun b => T b ∧ b < w.heap.size) fun b hb hl => ⟨hb, hl⟩)
  have T1 := Lib.hid (t1.mono (T := fun b => T b ∧ b < w.heap.size) fun b hb hl => ⟨hb, hl⟩)
  have G0 := Lib.hid (And.intro g0 (And.intro g1 (And.intro g2 (And.intro g3 (And.intro g4 (And.intro g5 (And.intro g6 (And.intro g7 (And.intro g8 g9)))))))))
  clear h o hn hE hv hg hd hnew hlen hfit hT hr t0 t1 g0 g1 g2 g3 g4 g5 g6 g7 g8 g9
  go_enter Tryd.func10, Tryd.ntmps10
  go_wp2_with fail
  refine (hot_clone HG.out.hg).mono ?_
  rintro e w1 ⟨lv1, sv1, rfl, hc1, hown1, f1⟩
  have HC1 := Lib.hid hc1
  have HF1 := Lib.hid f1
  have HOL : Hid (∀ k, lv1.ownBlock = some k → w.heap.size < k ∧ k < w1.heap.size) := Lib.hid fun k hk => ⟨hown1 k hk, (own_lt hc1.row k hk).2⟩
  clear l7 hc1
  go_upto_region 3 with fail
  refine wp_name ?_
  intro W2 hW2
  have F2 : Fr All w1 W2 := by rw [hW2]; exact (Fr.refl All w1).alloc _
  have BC : W2.heap[w1.heap.size]? = some (.cells #[.int .i64 0, .int .i64 0, .int .i64 0, .int .i64 0, .bool false, .int .i64 0, .slice none 0 0, .slice none 0 0, .bool false] 64 (0, 0)) := by rw [hW2]; exact heap_alloc_new w1 _
  have HC2 := Lib.hid (HC1.out.all F2)
  have HF2 := Lib.hid (HF1.out.trans F2)
  have HBC := Lib.hid BC
  have hcl : w.heap.size < w1.heap.size := HC1.out.lt
  have g0 := HF2.out.cell trivial G0.out.1
  have g1 := HF2.out.cell trivial G0.out.2.1
  have g2 := HF2.out.cell trivial G0.out.2.2.1
  have g3 := HF2.out.cell trivial G0.out.2.2.2.1
  have g4 := HF2.out.cell trivial G0.out.2.2.2.2.1
  have g5 := HF2.out.cell trivial G0.out.2.2.2.2.2.1
  have g6 := HF2.out.cell trivial G0.out.2.2.2.2.2.2.1
  have g7 := HF2.out.cell trivial G0.out.2.2.2.2.2.2.2.1
  have g8 := HF2.out.cell trivial G0.out.2.2.2.2.2.2.2.2.1
  have g9 := HF2.out.cell trivial G0.out.2.2.2.2.2.2.2.2.2
  clear hW2 F2 BC HC1 HF1 f1 hown1
  go_wp2_with fail
  refine wp_loop_rounds 2 ?_
  rw [rounds_succ]
  go_upto_region 6 with fail
  refine wp_name ?_
  intro W3 hW3
  have F3 : Fr All W2 W3 := by rw [hW3]; exact (Fr.refl All W2).alloc _
  have BX : W3.heap[W2.heap.size]? = some (.cells #[.int .i64 r.lsn, .int .i64 r.back, .int .i64 r.epoch, .int .i64 r.group, .int .i64 r.page, .int .i64 r.kind, .int .i64 r.slot, .slice X0 m0 d0, .slice X1 m1 d1, .bool r.last] 36 (0, 0)) := by rw [hW3]; exact heap_alloc_new W2 _
  have HBX := Lib.hid BX
  have HF3 := Lib.hid (HF2.out.trans F3)
  have HBC3 := Lib.hid ((F3.block _ (blk_lt HBC.out) trivial).trans HBC.out)
  have HC3 := Lib.hid (HC2.out.all F3)
  have hs3 : w1.heap.size < W3.heap.size := blk_lt HBC3.out
  have e0 : W3.cell? ⟨W2.heap.size, 0, none⟩ = some (.int .i64 r.lsn) := (blk_cells HBX.out).1 0
  have e1 : W3.cell? ⟨W2.heap.size, 1, none⟩ = some (.int .i64 r.back) := (blk_cells HBX.out).1 1
  have e2 : W3.cell? ⟨W2.heap.size, 2, none⟩ = some (.int .i64 r.epoch) := (blk_cells HBX.out).1 2
  have e3 : W3.cell? ⟨W2.heap.size, 3, none⟩ = some (.int .i64 r.group) := (blk_cells HBX.out).1 3
  have e4 : W3.cell? ⟨W2.heap.size, 4, none⟩ = some (.int .i64 r.page) := (blk_cells HBX.out).1 4
  have e5 : W3.cell? ⟨W2.heap.size, 5, none⟩ = some (.int .i64 r.kind) := (blk_cells HBX.out).1 5
  have e6 : W3.cell? ⟨W2.heap.size, 6, none⟩ = some (.int .i64 r.slot) := (blk_cells HBX.out).1 6
  have e7 : W3.cell? ⟨W2.heap.size, 7, none⟩ = some (.slice X0 m0 d0) := (blk_cells HBX.out).1 7
  have e8 : W3.cell? ⟨W2.heap.size, 8, none⟩ = some (.slice X1 m1 d1) := (blk_cells HBX.out).1 8
  have e9 : W3.cell? ⟨W2.heap.size, 9, none⟩ = some (.bool r.last) := (blk_cells HBX.out).1 9
  clear g0 g1 g2 g3 g4 g5 g6 g7 g8 g9 hW3 F3 BX
  go_wp2_with fail
  refine (add_new HC3.out (T0.out.all HF3.out) (T1.out.all HF3.out) HV.out HGr.out HDe.out HNw.out HLn.out).mono ?_
  rintro e w4 ⟨rfl, hn4⟩
  obtain ⟨lv4, _, f4, _⟩ := hn4.out
  have HF4 : Hid (Fr All w w4) := Lib.hid ⟨f4.os.trans HF3.out.os, f4.tape.trans HF3.out.tape, f4.output.trans HF3.out.output, Nat.le_trans HF3.out.size f4.size, fun b hb _ => (f4.block b (Nat.lt_of_lt_of_le hb HF3.out.size) ⟨by omega, fun e => by have := HOL.out b e.symm; omega⟩).trans (HF3.out.block b hb trivial)⟩
  have BC4 := (f4.block w1.heap.size (blk_lt HBC3.out) ⟨by omega, fun e => by have := (HOL.out _ e.symm).2; omega⟩).trans HBC3.out
  have hW2s : w1.heap.size < W2.heap.size := blk_lt HBC.out
  have BX4 := (f4.block W2.heap.size (blk_lt HBX.out) ⟨by omega, fun e => by have := (HOL.out _ e.symm).2; omega⟩).trans HBX.out
  have hs4 : W3.heap.size ≤ w4.heap.size := f4.size
  clear e0 e1 e2 e3 e4 e5 e6 e7 e8 e9 hn4 f4
  have e0 : w4.cell? ⟨W2.heap.size, 0, none⟩ = some (.int .i64 r.lsn) := (blk_cells BX4).1 0
  have e1 : w4.cell? ⟨W2.heap.size, 1, none⟩ = some (.int .i64 r.back) := (blk_cells BX4).1 1
  have e2 : w4.cell? ⟨W2.heap.size, 2, none⟩ = some (.int .i64 r.epoch) := (blk_cells BX4).1 2
  have e3 : w4.cell? ⟨W2.heap.size, 3, none⟩ = some (.int .i64 r.group) := (blk_cells BX4).1 3
  have e4 : w4.cell? ⟨W2.heap.size, 4, none⟩ = some (.int .i64 r.page) := (blk_cells BX4).1 4
  have e5 : w4.cell? ⟨W2.heap.size, 5, none⟩ = some (.int .i64 r.kind) := (blk_cells BX4).1 5
  have e6 : w4.cell? ⟨W2.heap.size, 6, none⟩ = some (.int .i64 r.slot) := (blk_cells BX4).1 6
  have e7 : w4.cell? ⟨W2.heap.size, 7, none⟩ = some (.slice X0 m0 d0) := (blk_cells BX4).1 7
  have e8 : w4.cell? ⟨W2.heap.size, 8, none⟩ = some (.slice X1 m1 d1) := (blk_cells BX4).1 8
  have e9 : w4.cell? ⟨W2.heap.size, 9, none⟩ = some (.bool r.last) := (blk_cells BX4).1 9
  have c7 : w4.cell? ⟨w1.heap.size, 7, none⟩ = some (.slice none 0 0) := (blk_cells BC4).1 7
  have cz : ∀ j, w4.frozen? ⟨w1.heap.size, j, none⟩ = false := (blk_cells BC4).2
  have FA := (Fr.refl All w4).alloc (.cells #[.int .i64 r.lsn, .int .i64 r.back, .int .i64 r.epoch, .int .i64 r.group, .int .i64 r.page, .int .i64 r.kind, .int .i64 r.slot, .slice X0 m0 d0, .slice X1 m1 d1, .bool r.last] 36)
  have HO0 : Own kRedo 36 w4.heap.size (fun b => T b ∧ b < w.heap.size) (w4.alloc (.cells #[.int .i64 r.lsn, .int .i64 r.back, .int .i64 r.epoch, .int .i64 r.group, .int .i64 r.page, .int .i64 r.kind, .int .i64 r.slot, .slice X0 m0 d0, .slice X1 m1 d1, .bool r.last] 36)) (.slice none 0 0) [] := Own.nil_ _ _ _ _ _
  have HY := Src.box (d := kRedo) (x := r) (kRedo_mk (T0.out.all HF4.out) (T1.out.all HF4.out)) 36 1
  change Src kRedo _ (w4.alloc (.cells #[.int .i64 r.lsn, .int .i64 r.back, .int .i64 r.epoch, .int .i64 r.group, .int .i64 r.page, .int .i64 r.kind, .int .i64 r.slot, .slice X0 m0 d0, .slice X1 m1 d1, .bool r.last] 36)) _ _ at HY
  have BC5 := (FA.block _ (blk_lt BC4) trivial).trans BC4
  go_wp2_with (at_builtin; refine wpList_app rfl rfl Tryd.underlying54 infoRedo rfl (by decide) HO0 HY rfl rfl (fun b hb _ => ⟨hb, by show some b ≠ none; simp⟩) (by simp) FA.size ?_; intro v6 w6 h60 g6 k6; have h6 : Own kRedo 36 w4.heap.size (fun b => T b ∧ b < w.heap.size) w6 v6 [r] := h60; obtain ⟨A6, c6, hv6⟩ := h6.length; change v6 = .slice A6 1 c6 at hv6; subst hv6; have BC6 := (g6.block _ (blk_lt BC5) (by show some _ ≠ none; simp)).trans BC5; have d7 : w6.cell? ⟨w1.heap.size, 7, none⟩ = some (.slice none 0 0) := (blk_cells BC6).1 7; have dz := (blk_cells BC6).2)
  rw [rounds_succ]
  go_upto_region 12 with fail
  refine wp_name ?_
  intro W7 hW7
  have gB : Fr (fun b => b ≠ w1.heap.size) w6 W7 := by rw [hW7]; exact (Fr.refl _ _).setCell (fun m hm => by exact hm) _
  have BC7 : W7.heap[w1.heap.size]? = some (.cells #[.int .i64 0, .int .i64 0, .int .i64 0, .int .i64 0, .bool false, .int .i64 0, .slice none 0 0, .slice A6 1 c6, .bool false] 64 (0, 0)) := by rw [hW7]; exact heap_setCell_same _ _ 7 _ _ _ BC6
  have hA6 : ∀ q, (Value.slice A6 1 c6).ownBlock = some q → w4.heap.size ≤ q := fun q hq => (own_lt h6 q hq).1
  have HR7 : Hid (Sl kRedo (fun b => w4.heap.size ≤ b ∨ (T b ∧ b < w.heap.size)) W7 (.slice A6 1 c6) [r]) := Lib.hid ((h6.sl_in (T := fun b => w4.heap.size ≤ b ∨ (T b ∧ b < w.heap.size)) (fun b hb _ => .inr hb) (fun b hb _ => .inl hb)).move' gB fun b hb _ => by
    show b ≠ w1.heap.size
    rcases hb with hb | hb
    · omega
    · have := hb.2; omega)
  have HF7 : Hid (Fr All w W7) := Lib.hid ((((HF4.out.trans FA).row g6.grown (fun q hq => by cases hq))).newest (by omega) gB)
  have HG7 := Lib.hid (HG.out.all HF7.out)
  have HT7 : Hid (∀ b, (w4.heap.size ≤ b ∨ (T b ∧ b < w.heap.size)) → b < W7.heap.size → Off D bs bp b ∧ b ≠ L ∧ b ≠ H ∧ some b ≠ lv.ownBlock) := Lib.hid fun b hb _ => by
    rcases hb with hb | hb
    · have h1 := HDW.out
      exact ⟨⟨by omega, by omega, by omega⟩, by omega, by omega, fun e => by have := HOW.out b e.symm; omega⟩
    · exact HT.out b hb.1 hb.2
  have HBC7 := Lib.hid BC7
  have y0 : W7.cell? ⟨w1.heap.size, 0, none⟩ = some (.int .i64 0) := (blk_cells HBC7.out).1 0
  have y1 : W7.cell? ⟨w1.heap.size, 1, none⟩ = some (.int .i64 0) := (blk_cells HBC7.out).1 1
  have y2 : W7.cell? ⟨w1.heap.size, 2, none⟩ = some (.int .i64 0) := (blk_cells HBC7.out).1 2
  have y3 : W7.cell? ⟨w1.heap.size, 3, none⟩ = some (.int .i64 0) := (blk_cells HBC7.out).1 3
  have y4 : W7.cell? ⟨w1.heap.size, 4, none⟩ = some (.bool false) := (blk_cells HBC7.out).1 4
  have y5 : W7.cell? ⟨w1.heap.size, 5, none⟩ = some (.int .i64 0) := (blk_cells HBC7.out).1 5
  have y6 : W7.cell? ⟨w1.heap.size, 6, none⟩ = some (.slice none 0 0) := (blk_cells HBC7.out).1 6
  have y7 : W7.cell? ⟨w1.heap.size, 7, none⟩ = some (.slice A6 1 c6) := (blk_cells HBC7.out).1 7
  have y8 : W7.cell? ⟨w1.heap.size, 8, none⟩ = some (.bool false) := (blk_cells HBC7.out).1 8
  clear hW7 gB BC7 h60 h6 g6 k6 BC6 d7 dz HO0 HY BC5 FA BC4 BX4 hA6 c7 cz e0 e1 e2 e3 e4 e5 e6 e7 e8 e9
  go_wp2_with fail
  refine (lay_call (c := call1 r) HE.out HG7.out O.out HN.out HFt.out rfl HR7.out hroom hfew HT7.out ⟨⟨HV.out, HGr.out, HDe.out, HNw.out, HLn.out⟩, trivial⟩).mono ?_
  rintro e w8 ⟨rfl, ds', lv8, h8, o8, hb8, ho8, f8⟩
  have HG8 := Lib.hid h8
  have HO8 := Lib.hid o8
  have HLv : Hid (∀ q, lv8.ownBlock = some q → lv.ownBlock = some q ∨ w.heap.size ≤ q) := Lib.hid fun q hq => (ho8 q hq).imp id fun h => Nat.le_trans HF7.out.size h
  have HF8 : Hid (Fr (fun b => Off D bs bp b ∧ b ≠ L ∧ b ≠ H ∧ some b ≠ lv.ownBlock) w w8) := Lib.hid ((HF7.out.mono fun _ _ => trivial).trans f8)
  have HBk := Lib.hid hb8
  have hbox : Off D bs bp w1.heap.size ∧ w1.heap.size ≠ L ∧ w1.heap.size ≠ H ∧ some w1.heap.size ≠ lv.ownBlock := by
    have h1 := HDW.out
    exact ⟨⟨by omega, by omega, by omega⟩, by omega, by omega, fun e => by have := HOW.out _ e.symm; omega⟩
  have z7 : w8.cell? ⟨w1.heap.size, 7, none⟩ = some (.slice A6 1 c6) := f8.cell hbox y7
  clear y0 y1 y2 y3 y4 y5 y6 y7 y8 h8 o8 hb8 ho8 f8 hbox
  go_wp2_with fail
  go_ret2
  exact ⟨rfl, ds', lv8, HG8.out, HO8.out, HBk.out, HLv.out, HF8.out⟩
end
end Go.Proofs.YteclgcnndjcmmaaDoor
