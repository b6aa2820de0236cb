/- The walk of the law that a pool that is told anything has the pages that the chapter says. -/
import Derived.Test.YtppjpfgjophgkaaDoorQInv
import Derived.Test.YtppjpfgjophgkaaDoorQDo
import Derived.Test.YtppjpfgjophgkaaDoorQPut
import Derived.Test.YtppjpfgjophgkaaDoorPHd
import Derived.Test.YtppjpfgjophgkaaDoorRefJ
import Derived.Test.YtppjpfgjophgkaaDoorRiW
import Derived.Test.YtppjpfgjophgkaaDoorSee
import Derived.Test.YtppjpfgjophgkaaDoorWPg
import Derived.Test.YtppjpfgjophgkaaDoorWorld
import Derived.Deep.CutRange
import Derived.Deep.CutBlock
namespace Go.Proofs.YtppjpfgjophgkaaDoor
open Go.RowKit Go.Maps

theorem info_page : (Tryd.prog.info? 30).map (fun i => (i.zero, i.size, i.bytes)) = some (some (.agg #[.int .i64 0, .int .i64 0, .int .i64 0, .int .i64 0, .slice none 0 0]), kPage.sz, 56) := by kernel_rfl
theorem Sl.lay {α : Type} {d : Kd α} {w : World} {xs : List α} {cs : List Value} (h : Reps d All w xs cs) (t : TypeId) (n : Nat) (hl : xs.length = n) (hm : n ≤ maxLen) : Sl d All (w.alloc (.cells cs.toArray t)) (.slice (some ⟨w.heap.size, 0, none⟩) n n) xs := by
  subst hl
  refine ⟨_, xs.length, rfl, Nat.le_refl _, hm, fun _ => ⟨w.heap.size, 0, rfl, trivial, fun i x hi => ?_⟩⟩
  obtain ⟨el, hk, hc⟩ := h.get hi
  refine ⟨el, d.move' hk ((Fr.refl All w).alloc _) fun _ _ _ => trivial, fun j u hu => ?_⟩
  have h1 := World.news_of_block (cs := cs.toArray) (t := t) (fr := (0, 0)) (heap_alloc_new w _) (i * d.sz + j) u (by simpa using hc j u hu)
  rw [addr_lit, ← Nat.add_assoc] at h1
  exact h1

theorem sees_ix {qs : List Addr} {w : World} (h : Errs w qs) (k : Nat) (hk : k < 17) : Sees w (errAt qs (some k)) (101 + k) false 0 := by
  have hl := h.len
  have e : qs[k]? = some (qs[k]'(by omega)) := List.getElem?_eq_getElem _
  have e2 : errAt qs (some k) = errV (qs[k]'(by omega)) := by
    unfold errAt
    simp only [e]
  rw [e2]
  exact Sees.bare h e
set_option linter.all false in
set_option hygiene false in
set_option maxRecDepth 100000 in
set_option maxHeartbeats 40000000 in
theorem plays20_walk {qs : List Addr} {w : World} (hq : Errs w qs) {v : Value} {xs : List DoP} (h : Sl kDoP All w v xs) :
    Calls Tryd.prog 3 #[v] w fun e w' => e = .returned (.bool true) ∧ Fr All w w' := by
  obtain ⟨A, n, c, rfl, en, _⟩ := h.open_
  have En := Lib.hid en
  have HS := Lib.hid (h.mono (T := fun b => b < w.heap.size) fun b _ hb => hb)
  clear en h
  go_enter Tryd.func3, Tryd.ntmps3
  go_wp2_with fail
  refine (first20_call w).mono ?_
  rintro e w0 ⟨rfl, f0⟩
  by_cases h50 : n > 50
  · have hd : decide ((n : Int) > 50) = true := decide_eq_true (by omega)
    go_wp2_with fail
    go_ret
    exact ⟨rfl, f0⟩
  · have hd50 : decide ((n : Int) > 50) = false := decide_eq_false (by omega)
    go_wp2_with fail
    refine (pool_new w0).mono ?_
    rintro e w1 ⟨B, l, t, rfl, hB, hl, ht, hk, f1⟩
    have hwl := f0.size
    have hkB := hk.lt
    have hkl := hk.hv.lt
    have hkt := hk.tv.lt
    have Q0 : QInv w w1 w1.heap.size B l t (.slice none 0 0) (.slice none 0 0) ⟨fun _ => none, 0, fun _ => none, 0⟩ [] [] :=
      ⟨hk.grow (Fr.refl All w1) trivial trivial trivial (fun _ _ _ _ => trivial) (fun x hx _ => by rcases hx with hx | hx <;> cases hx) (fun x hx => by rcases hx with hx | hx <;> cases hx), Own.nil_ _ _ _ _ _, Own.nil_ _ _ _ _ _, fun x hx => by (cases hx), hkB, hkl, hkt, f0.trans f1, Nat.le_refl _, ⟨by omega, by omega, by omega, by omega⟩⟩
    have HQ0 := Lib.hid Q0
    have hbase : w.heap.size ≤ w1.heap.size := Q0.fr.size
    clear hk Q0 f0 f1 hB hl ht
    go_wp2_with fail
    go_loopw [5, 6, 7] (fun u wv i wr => ∃ (j : Nat) (s : PSt) (hv : List Page) (ws : List Int), i = .int .i64 j ∧ j ≤ n ∧ hv.length ≤ j ∧ Hid (PlSt s hv ws) ∧ Hid (QInv w wr w1.heap.size B l t u wv s hv ws)) (fun _ _ i _ => n - (intOf i).toNat)
    case atStart => exact ⟨0, _, [], [], rfl, Nat.zero_le _, Nat.le_refl _, Lib.hid PlSt.start, HQ0⟩
    case round =>
      obtain ⟨j, s, hv, ws, rfl, hj, hlen, HP, HQ⟩ := hrel
      obtain ⟨UA, uc, hu⟩ := HQ.out.hv.length
      obtain ⟨WA, wc, hw⟩ := HQ.out.ws.length
      subst hu
      subst hw
      obtain ⟨L, hL⟩ : ∃ L, hv.length = L := ⟨_, rfl⟩
      obtain ⟨M, hM⟩ : ∃ M, ws.length = M := ⟨_, rfl⟩
      rw [hL] at HQ hlen ⊢
      rw [hM] at HQ ⊢
      have HL := Lib.hid hL
      have HM := Lib.hid hM
      have hM256 : M ≤ 256 := by have := HP.out.nw_le; have := HP.out.nw; omega
      clear hL hM
      by_cases hlt : j < n
      · obtain ⟨d, hd, hdm⟩ := get_of (l := xs) (k := j) (by rw [En.out]; exact hlt)
        obtain ⟨b, o, PA, pn, pc, A0, n0, c0, A1, n1, c1, rfl, hrange, hn64, sp, s0, s1⟩ := dop_at (HS.out.all HQ.out.fr) hd
        have b0 : (0 : Int) ≤ (j : Int) := by omega
        have b1 : (j : Int) < (n : Int) := by omega
        have HN64 := Lib.hid hn64
        have SP := Lib.hid sp
        have S0 := Lib.hid s0
        have S1 := Lib.hid s1
        have ep := sp.len
        have Ep := Lib.hid ep
        clear hd hdm hn64 sp s0 s1 ep
        obtain ⟨vals, hvals⟩ : ∃ vals : Array Value, vals = #[.int .i64 d.kind, .int .i64 d.n, .int .i64 d.page.id, .int .i64 d.page.lsn, .int .i64 d.page.level, .int .i64 d.page.next, .slice PA pn pc, .int .i64 d.redo.lsn, .int .i64 d.redo.back, .int .i64 d.redo.epoch, .int .i64 d.redo.group, .int .i64 d.redo.page, .int .i64 d.redo.kind, .int .i64 d.redo.slot, .slice A0 n0 c0, .slice A1 n1 c1, .bool d.redo.last] := ⟨_, rfl⟩
        have hrange2 : wr.rangeAt b (o + j * 17) vals.toList := by rw [hvals]; exact hrange
        have hsz : vals.size = 17 := by rw [hvals]; rfl
        have hone : vals.all (·.oneCell') = true := by rw [hvals]; simp [Value.oneCell']
        have HV : Hid (vals[0]? = some (.int .i64 d.kind) ∧ vals[1]? = some (.int .i64 d.n) ∧ vals[2]? = some (.int .i64 d.page.id) ∧ vals[3]? = some (.int .i64 d.page.lsn) ∧ vals[4]? = some (.int .i64 d.page.level) ∧ vals[5]? = some (.int .i64 d.page.next) ∧ vals[6]? = some (.slice PA pn pc) ∧ vals[7]? = some (.int .i64 d.redo.lsn) ∧ vals[8]? = some (.int .i64 d.redo.back) ∧ vals[9]? = some (.int .i64 d.redo.epoch) ∧ vals[10]? = some (.int .i64 d.redo.group) ∧ vals[11]? = some (.int .i64 d.redo.page) ∧ vals[12]? = some (.int .i64 d.redo.kind) ∧ vals[13]? = some (.int .i64 d.redo.slot) ∧ vals[14]? = some (.slice A0 n0 c0) ∧ vals[15]? = some (.slice A1 n1 c1) ∧ vals[16]? = some (.bool d.redo.last)) := Lib.hid (by rw [hvals]; exact ⟨rfl, rfl, rfl, rfl, rfl, rfl, rfl, rfl, rfl, rfl, rfl, rfl, rfl, rfl, rfl, rfl, rfl⟩)
        have hta : vals.toList.toArray = vals := by simp
        have hlen : vals.toList.length = 17 := by simpa using hsz
        have hi1 : (Tryd.prog.info? 35).map (·.size) = some vals.toList.length := by rw [hlen]; kernel_rfl
        have hi2 : (Tryd.prog.info? 35).map (·.size) = some vals.size := by rw [hsz]; kernel_rfl
        have hz2 : (#[.int .i64 0, .int .i64 0, .int .i64 0, .int .i64 0, .int .i64 0, .int .i64 0, .slice none 0 0, .int .i64 0, .int .i64 0, .int .i64 0, .int .i64 0, .int .i64 0, .int .i64 0, .int .i64 0, .slice none 0 0, .slice none 0 0, .bool false] : Array Value).size = vals.size := by rw [hsz]; rfl
        have DB := heap_alloc_new wr (.cells vals 35)
        have FD := (Fr.refl All wr).alloc (.cells vals 35)
        obtain ⟨W, hW⟩ : ∃ W, wr.alloc (.cells vals 35) = W := ⟨_, rfl⟩
        rw [hW] at DB FD
        have HONE := Lib.hid hone
        have HRG := Lib.hid hrange2
        have HI1 := Lib.hid hi1
        have HI2 := Lib.hid hi2
        have HZ2 := Lib.hid hz2
        clear hone hrange hrange2 hvals hsz hlen hi1 hi2 hz2
        go_upto_region 15 with (first
          | (refine wpList_load_mid rfl 35 _ rfl b (o + j * 17) (by kernel_rfl) _ _ HRG.out Tryd.underlying35 rfl HI1.out ?_)
          | (refine wpList_store_new rfl 35 _ _ rfl _ vals (by kernel_rfl) (by kernel_rfl) HI2.out HZ2.out HONE.out ?_))
        clear HONE HRG HI1 HI2 HZ2
        have y2 : W.cell? ⟨wr.heap.size, 2, none⟩ = some (.int .i64 d.page.id) := ((blk_cells DB).1 2).trans HV.out.2.2.1
        have y3 : W.cell? ⟨wr.heap.size, 3, none⟩ = some (.int .i64 d.page.lsn) := ((blk_cells DB).1 3).trans HV.out.2.2.2.1
        have y4 : W.cell? ⟨wr.heap.size, 4, none⟩ = some (.int .i64 d.page.level) := ((blk_cells DB).1 4).trans HV.out.2.2.2.2.1
        have y5 : W.cell? ⟨wr.heap.size, 5, none⟩ = some (.int .i64 d.page.next) := ((blk_cells DB).1 5).trans HV.out.2.2.2.2.2.1
        have y6 : W.cell? ⟨wr.heap.size, 6, none⟩ = some (.slice PA pn pc) := ((blk_cells DB).1 6).trans HV.out.2.2.2.2.2.2.1
        go_wp2_with fail
        refine (world_page (p := d.page) (SP.out.all FD)).mono ?_
        rintro e w2 ⟨rfl, f2⟩
        cases hsm : smallPage d.page.ents with
        | false =>
          go_wp2_with fail
          go_ret
          exact ⟨rfl, (HQ.out.fr.trans FD).trans f2⟩
        | true =>
          clear y2 y3 y4 y5 y6
          have FD2 := FD.trans f2
          have DB2 := (f2.block _ (blk_lt DB) trivial).trans DB
          have y7 : w2.cell? ⟨wr.heap.size, 7, none⟩ = some (.int .i64 d.redo.lsn) := ((blk_cells DB2).1 7).trans HV.out.2.2.2.2.2.2.2.1
          have y8 : w2.cell? ⟨wr.heap.size, 8, none⟩ = some (.int .i64 d.redo.back) := ((blk_cells DB2).1 8).trans HV.out.2.2.2.2.2.2.2.2.1
          have y9 : w2.cell? ⟨wr.heap.size, 9, none⟩ = some (.int .i64 d.redo.epoch) := ((blk_cells DB2).1 9).trans HV.out.2.2.2.2.2.2.2.2.2.1
          have y10 : w2.cell? ⟨wr.heap.size, 10, none⟩ = some (.int .i64 d.redo.group) := ((blk_cells DB2).1 10).trans HV.out.2.2.2.2.2.2.2.2.2.2.1
          have y11 : w2.cell? ⟨wr.heap.size, 11, none⟩ = some (.int .i64 d.redo.page) := ((blk_cells DB2).1 11).trans HV.out.2.2.2.2.2.2.2.2.2.2.2.1
          have y12 : w2.cell? ⟨wr.heap.size, 12, none⟩ = some (.int .i64 d.redo.kind) := ((blk_cells DB2).1 12).trans HV.out.2.2.2.2.2.2.2.2.2.2.2.2.1
          have y13 : w2.cell? ⟨wr.heap.size, 13, none⟩ = some (.int .i64 d.redo.slot) := ((blk_cells DB2).1 13).trans HV.out.2.2.2.2.2.2.2.2.2.2.2.2.2.1
          have y14 : w2.cell? ⟨wr.heap.size, 14, none⟩ = some (.slice A0 n0 c0) := ((blk_cells DB2).1 14).trans HV.out.2.2.2.2.2.2.2.2.2.2.2.2.2.2.1
          have y15 : w2.cell? ⟨wr.heap.size, 15, none⟩ = some (.slice A1 n1 c1) := ((blk_cells DB2).1 15).trans HV.out.2.2.2.2.2.2.2.2.2.2.2.2.2.2.2.1
          have y16 : w2.cell? ⟨wr.heap.size, 16, none⟩ = some (.bool d.redo.last) := ((blk_cells DB2).1 16).trans HV.out.2.2.2.2.2.2.2.2.2.2.2.2.2.2.2.2
          have HR := Sl.lay (Reps.single (kRedo_mk (x := d.redo) ((S0.out.all FD2).mono fun _ _ _ => trivial) ((S1.out.all FD2).mono fun _ _ _ => trivial))) 33 1 rfl (by decide)
          have FR := (Fr.refl All w2).alloc (.cells (#[.int .i64 d.redo.lsn, .int .i64 d.redo.back, .int .i64 d.redo.epoch, .int .i64 d.redo.group, .int .i64 d.redo.page, .int .i64 d.redo.kind, .int .i64 d.redo.slot, .slice A0 n0 c0, .slice A1 n1 c1, .bool d.redo.last] : Array Value).toList.toArray 33)
          go_wp2_with fail
          refine (right_call 1 (by decide) HR).mono ?_
          rintro e w3 ⟨bb, rfl, hbb, f3⟩
          have F23 : Fr All w2 w3 := FR.trans f3
          have F3 : Fr All wr w3 := FD2.trans F23
          have DB3 := (F23.block _ (blk_lt DB2) trivial).trans DB2
          have Hbb := Lib.hid hbb
          clear FR f3 F23 DB2 FD2 f2 DB FD hW hbb HR hsm y7 y8 y9 y10 y11 y12 y13 y14 y15 y16
          cases bb with
          | false =>
            go_wp2_with fail
            go_ret
            exact ⟨rfl, HQ.out.fr.trans F3⟩
          | true =>
            have hvx : validIx d.redo = none := (Hbb.out rfl).2 d.redo (by simp)
            have HVX := Lib.hid hvx
            have HQ3 := Lib.hid (HQ.out.all F3)
            have hnh : s.nh ≤ 1000 := by have := HP.out.nh; have := HL.out; omega
            clear hvx Hbb
            go_wp2_with fail
            refine (pool_clone HQ3.out.pk (fun k p hp => (HP.out.ok p ((HP.out.have_ k p).1 hp).1).ents) hnh).mono ?_
            rintro e w4 ⟨B', l', n', rfl, hB', hl', hcl, f4⟩
            have HC4 := Lib.hid hcl
            clear hcl
            go_wp2_with fail
            refine (clen_call HC4.out).mono ?_
            rintro e wn ⟨rfl, hwn⟩
            obtain rfl := hwn.symm
            clear hwn
            have F4 : Fr All wr w4 := F3.trans f4
            have DB4 := (f4.block _ (blk_lt DB3) trivial).trans DB3
            have HQ4 := Lib.hid (HQ3.out.all f4)
            have h34 : wr.heap.size ≤ w3.heap.size := F3.size
            have hD4 := blk_lt DB4
            clear F3 f4 DB3 HQ3
            have y0 : w4.cell? ⟨wr.heap.size, 0, none⟩ = some (.int .i64 d.kind) := ((blk_cells DB4).1 0).trans HV.out.1
            go_upto_block 2 with fail
            go_cut [5, 6, 11, 12, 13, 14, 15, 16, 17, 18, 19] from 61 to 228 (fun u wv _ _ _ _ _ _ _ _ _ wz => ∃ (s' : PSt) (hv' : List Page) (ws' : List Int), hv'.length ≤ j + 1 ∧ Hid (PlSt s' hv' ws') ∧ Hid (QInv w wz w1.heap.size B l t u wv s' hv' ws') ∧ Hid (CLen wz B' l' n'))
            case first =>
              have HOB : Hid (Off B l t B') := Lib.hid (by have h1 := HQ4.out.bB; have h2 := HQ4.out.bl; have h3 := HQ4.out.bt; have h4 := HQ.out.le; exact ⟨by omega, by omega, by omega⟩)
              have HOL : Hid (Off B l t l') := Lib.hid (by have h1 := HQ4.out.bB; have h2 := HQ4.out.bl; have h3 := HQ4.out.bt; have h4 := HQ.out.le; exact ⟨by omega, by omega, by omega⟩)
              have HOD : Hid (Off B l t wr.heap.size) := Lib.hid (by have h1 := HQ4.out.bB; have h2 := HQ4.out.bl; have h3 := HQ4.out.bt; have h4 := HQ.out.le; exact ⟨by omega, by omega, by omega⟩)
              have HXO : Hid (∀ b, b < w.heap.size → Off B l t b) := Lib.hid fun b hb => by have h := HQ4.out.nw; exact ⟨by omega, by omega, by omega⟩
              have HUB : Hid (∀ x, (Value.slice UA L uc).ownBlock = some x → x < wr.heap.size) := Lib.hid fun x hx => (HQ.out.ub hx).2.2
              have HWB : Hid (∀ x, (Value.slice WA M wc).ownBlock = some x → x < wr.heap.size) := Lib.hid fun x hx => (HQ.out.wb hx).2.2
              have HXB : Hid (∀ b, b < w.heap.size → some b ≠ (Value.slice UA L uc).ownBlock) := Lib.hid fun b hb hh => by have := (HQ.out.ub hh.symm).2.1; have := HQ.out.nw; omega
              have HNN : Hid (s.nh ≤ 1000) := Lib.hid hnh
              have HL6 : Hid (hv.length ≤ 50 ∧ hv.length ≤ j) := Lib.hid (by rw [HL.out]; omega)
              have HW6 : Hid (ws.length ≤ 256) := Lib.hid (by rw [HM.out]; exact hM256)
              have HBB : Hid (w3.heap.size ≤ B' ∧ w3.heap.size ≤ l') := Lib.hid ⟨hB', hl'⟩
              by_cases hk1 : d.kind = 1
              · have hkb : (d.kind == 1) = true := by rw [beq_iff_eq]; exact hk1
                clear hk1
                have y2 : w4.cell? ⟨wr.heap.size, 2, none⟩ = some (.int .i64 d.page.id) := ((blk_cells DB4).1 2).trans HV.out.2.2.1
                have y3 : w4.cell? ⟨wr.heap.size, 3, none⟩ = some (.int .i64 d.page.lsn) := ((blk_cells DB4).1 3).trans HV.out.2.2.2.1
                have y4 : w4.cell? ⟨wr.heap.size, 4, none⟩ = some (.int .i64 d.page.level) := ((blk_cells DB4).1 4).trans HV.out.2.2.2.2.1
                have y5 : w4.cell? ⟨wr.heap.size, 5, none⟩ = some (.int .i64 d.page.next) := ((blk_cells DB4).1 5).trans HV.out.2.2.2.2.2.1
                have y6 : w4.cell? ⟨wr.heap.size, 6, none⟩ = some (.slice PA pn pc) := ((blk_cells DB4).1 6).trans HV.out.2.2.2.2.2.2.1
                go_wp2_with fail
                refine (ref_valid_ix (p := d.page) (SP.out.all F4)).mono ?_
                rintro e w5 ⟨rfl, f5⟩
                have F5 := F4.trans f5
                have DB5 := (f5.block _ (blk_lt DB4) trivial).trans DB4
                have HQ5 := Lib.hid (HQ4.out.all f5)
                have HC5 := Lib.hid (HC4.out.move f5 trivial trivial)
                clear y0 y2 y3 y4 y5 y6 F4 f5 DB4 HQ4 HC4
                have y2 : w5.cell? ⟨wr.heap.size, 2, none⟩ = some (.int .i64 d.page.id) := ((blk_cells DB5).1 2).trans HV.out.2.2.1
                have y3 : w5.cell? ⟨wr.heap.size, 3, none⟩ = some (.int .i64 d.page.lsn) := ((blk_cells DB5).1 3).trans HV.out.2.2.2.1
                have y4 : w5.cell? ⟨wr.heap.size, 4, none⟩ = some (.int .i64 d.page.level) := ((blk_cells DB5).1 4).trans HV.out.2.2.2.2.1
                have y5 : w5.cell? ⟨wr.heap.size, 5, none⟩ = some (.int .i64 d.page.next) := ((blk_cells DB5).1 5).trans HV.out.2.2.2.2.2.1
                have y6 : w5.cell? ⟨wr.heap.size, 6, none⟩ = some (.slice PA pn pc) := ((blk_cells DB5).1 6).trans HV.out.2.2.2.2.2.2.1
                cases hix : pageIx d.page with
                | some k =>
                  as_aux_lemma =>
                    go_wp2_with fail
                    refine (pool_put_bad (p := d.page) (hq.move HQ5.out.fr) HQ5.out.pk hix (SP.out.all F5)).mono ?_
                    rintro e w6 ⟨rfl, f6⟩
                    have hSee := sees_ix (hq.move (HQ5.out.fr.trans f6)) k (pageIx_lt hix)
                    have hne : (ixC (some k) != 0) = true := by show ((101 + (k : Int)) != 0) = true; rw [bne_iff_ne]; omega
                    clear y2 y3 y4 y5 y6 F5 DB5
                    go_wp2_with fail
                    refine (see_is hSee (ixC (some k))).mono ?_
                    rintro e w7 ⟨rfl, f7⟩
                    rw [decide_eq_true (⟨rfl, rfl, rfl⟩ : (101 : Int) + (k : Int) = ixC (some k) ∧ false = false ∧ (0 : Int) = 0)]
                    go_wp2_with fail
                    go_meet
                    case rel => exact ⟨s, hv, ws, by have := HL6.out; omega, HP, Lib.hid (HQ5.out.all (f6.trans f7)), Lib.hid (HC5.out.move (f6.trans f7) trivial trivial)⟩
                | none =>
                  as_aux_lemma =>
                    have HOK := Lib.hid (PageOk.of_ix hix)
                    rw [show ixC none = (0 : Int) from rfl]
                    go_wp2_with fail
                    refine (pool_put (p := d.page) HQ5.out.pk HOK.out (SP.out.all F5) (fun x hx _ => (HXO.out x hx).2.2) (by have := HNN.out; omega)).mono ?_
                    rintro e w6 ⟨rfl, hk6, f6⟩
                    have HQ6 := Lib.hid (HQ5.out.pool f6 hk6)
                    have HC6 := Lib.hid (HC5.out.move f6 HOB.out HOL.out)
                    have DB6 := (f6.block _ (blk_lt DB5) HOD.out).trans DB5
                    have HH6 : Hid (wr.heap.size < w6.heap.size) := Lib.hid (blk_lt DB6)
                    have SP6 := Lib.hid ((SP.out.all F5).move' f6 (fun b hb _ => HXO.out b hb))
                    clear y2 y3 y4 y5 y6 hk6 HQ5 HC5 DB5 F5 f6
                    go_wp2_with fail
                    refine (see_is (Sees.nil_ w6) 0).mono ?_
                    rintro e w7 ⟨rfl, f7⟩
                    rw [decide_eq_true (⟨rfl, rfl, rfl⟩ : (0 : Int) = 0 ∧ false = false ∧ (0 : Int) = 0)]
                    have HQ7 := Lib.hid (HQ6.out.all f7)
                    have HC7 := Lib.hid (HC6.out.move f7 trivial trivial)
                    have DB7 := (f7.block _ (blk_lt DB6) trivial).trans DB6
                    have SP7 := Lib.hid (SP6.out.all f7)
                    clear HQ6 HC6 DB6 SP6 f7
                    have y2 : w7.cell? ⟨wr.heap.size, 2, none⟩ = some (.int .i64 d.page.id) := ((blk_cells DB7).1 2).trans HV.out.2.2.1
                    have y3 : w7.cell? ⟨wr.heap.size, 3, none⟩ = some (.int .i64 d.page.lsn) := ((blk_cells DB7).1 3).trans HV.out.2.2.2.1
                    have y4 : w7.cell? ⟨wr.heap.size, 4, none⟩ = some (.int .i64 d.page.level) := ((blk_cells DB7).1 4).trans HV.out.2.2.2.2.1
                    have y5 : w7.cell? ⟨wr.heap.size, 5, none⟩ = some (.int .i64 d.page.next) := ((blk_cells DB7).1 5).trans HV.out.2.2.2.2.2.1
                    have y6 : w7.cell? ⟨wr.heap.size, 6, none⟩ = some (.slice PA pn pc) := ((blk_cells DB7).1 6).trans HV.out.2.2.2.2.2.2.1
                    go_wp2_with fail
                    refine (find_call HQ7.out.hv.sl (by have := HL6.out; omega)).mono ?_
                    rintro e w8 ⟨r, rfl, HR, hw8⟩
                    obtain rfl := hw8.symm
                    clear hw8
                    rcases HR.out with ⟨hr, hno⟩ | ⟨i, p, hr, hi, hid⟩
                    · subst hr
                      have HNO := Lib.hid hno
                      clear hno HR
                      go_wp2_with fail
                      refine (ref_page (p := d.page) SP7.out HOK.out.ents).mono ?_
                      rintro e w8 ⟨RA, rc, rfl, hr80, f8⟩
                      have hr8 := hr80.sl_in (T := From w7.heap.size) (fun b (hb : w7.heap.size + 2 ≤ b) _ => by show w7.heap.size ≤ b; omega) (fun b hb _ => by show w7.heap.size ≤ b; omega)
                      obtain ⟨W8, hW8⟩ : ∃ W, w8.alloc (.cells #[.int .i64 d.page.id, .int .i64 d.page.lsn, .int .i64 d.page.level, .int .i64 d.page.next, .slice RA d.page.ents.length rc] 30) = W := ⟨_, rfl⟩
                      have FB := f8.alloc (.cells #[.int .i64 d.page.id, .int .i64 d.page.lsn, .int .i64 d.page.level, .int .i64 d.page.next, .slice RA d.page.ents.length rc] 30)
                      have HY := Src.box (d := kPage) (kPage_mk (x := d.page) hr8) 30 1
                      change Src kPage _ (w8.alloc (.cells #[.int .i64 d.page.id, .int .i64 d.page.lsn, .int .i64 d.page.level, .int .i64 d.page.next, .slice RA d.page.ents.length rc] 30)) _ _ at HY
                      rw [hW8] at FB HY
                      have HO8 := HQ7.out.hv.all FB
                      have DB8 := (FB.block _ (blk_lt DB7) trivial).trans DB7
                      clear y2 y3 y4 y5 y6
                      have hne : ∀ b, From w7.heap.size b → b < W8.heap.size → (Off B l t b ∧ some b ≠ (Value.slice WA M wc).ownBlock) ∧ some b ≠ (Value.slice UA L uc).ownBlock := fun b (hb : w7.heap.size ≤ b) _ => by
                        have h1 := HQ7.out.bB
                        have h2 := HQ7.out.bl
                        have h3 := HQ7.out.bt
                        have h4 := HQ7.out.le
                        exact ⟨⟨⟨by omega, by omega, by omega⟩, fun hh => by have := (HQ7.out.wb hh.symm).2.2; omega⟩, fun hh => by have := (HQ7.out.ub hh.symm).2.2; omega⟩
                      have hlen9 : (hv.length + [d.page].length) * 56 ≤ 140737488355328 := by have := HL6.out; simp only [List.length_singleton]; omega
                      have hbase9 : w1.heap.size ≤ W8.heap.size := Nat.le_trans HQ7.out.le FB.size
                      have HNE := Lib.hid hne
                      have HL9 := Lib.hid hlen9
                      have HB9 := Lib.hid hbase9
                      clear hne hlen9 hbase9 hr8 hr80 f8
                      go_wp2_with (at_builtin; refine wpList_app rfl rfl Tryd.underlying26 info_page rfl (by decide) HO8 HY rfl rfl HNE.out HL9.out HB9.out ?_; intro v9 w9 h9 g9 k9; have DB9 := (g9.block _ (blk_lt DB8) (fun hh => by have := HUB.out _ hh.symm; omega)).trans DB8; have y2 : w9.cell? ⟨wr.heap.size, 2, none⟩ = some (.int .i64 d.page.id) := ((blk_cells DB9).1 2).trans HV.out.2.2.1; clear hW8 HO8 HY)
                      have HQ9 := Lib.hid (HQ7.out.pages FB g9 h9 (k9.imp id fun hk x hx => by rw [hk] at hx; have := Option.some.inj hx; have := FB.size; omega))
                      have HC9 := Lib.hid (HC7.out.move ((FB.mono fun _ _ => trivial).trans g9) (fun hh => by have := HUB.out _ hh.symm; have := HBB.out.1; have := h34; omega) (fun hh => by have := HUB.out _ hh.symm; have := HBB.out.2; have := h34; omega))
                      clear g9 h9 k9 FB HQ7 HC7
                      refine (without_call HQ9.out.ws.sl (by have := HW6.out; omega)).mono ?_
                      rintro e w10 ⟨zs, ZA, zc, rfl, HZ, hz, f10⟩
                      go_wp2_with fail
                      go_meet
                      case rel =>
                        have hp : s.puts d.page = (s.unwant d.page.id).has d.page.id d.page := by unfold PSt.puts; rw [HP.out.no HNO.out]
                        refine ⟨s.puts d.page, hv ++ [d.page], zs, by have := HL6.out; rw [List.length_append, List.length_singleton]; omega, Lib.hid ?_, Lib.hid (HQ9.out.nums (f10.mono fun _ _ => trivial) hz (Nat.le_refl _)), Lib.hid (HC9.out.move f10 trivial trivial)⟩
                        rw [hp, HZ.out]
                        exact (HP.out.unwant d.page.id).add HNO.out HOK.out
                    · subst hr
                      have HI := Lib.hid hi
                      have HID := Lib.hid hid
                      have hiL : i < L := by rw [← HL.out]; exact (List.getElem?_eq_some_iff.1 hi).1
                      have i0 : (0 : Int) ≤ (i : Int) := by omega
                      have i1 : (i : Int) < (L : Int) := by omega
                      have hge : decide ((i : Int) < 0) = false := decide_eq_false (by omega)
                      obtain ⟨g, A9, n9, c9, rfl, hg1, hg2, z0, z1, z2, z3, z4, hz, _⟩ := own_page_at HQ7.out.hv hi
                      have HMP : Hid (s.have_ d.page.id = some p) := Lib.hid (by rw [← hid]; exact HP.out.at_ hi)
                      have hgr : g < wr.heap.size := HUB.out g rfl
                      have HGR := Lib.hid hgr
                      clear hi hid HR hg1 hg2 hgr
                      by_cases hle : p.lsn ≤ d.page.lsn
                      · have hdl : decide (p.lsn ≤ d.page.lsn) = true := decide_eq_true hle
                        have HLE := Lib.hid hle
                        clear hle
                        go_upto_region 39 with fail
                        go_quiet (fail)
                        have FQ := (Fr.refl All w7).drewN nq
                        have HQ8 := Lib.hid (HQ7.out.all FQ)
                        have HC8 := Lib.hid (HC7.out.move FQ trivial trivial)
                        have DB8 := (FQ.block _ (blk_lt DB7) trivial).trans DB7
                        have SP8 := Lib.hid (SP7.out.all FQ)
                        generalize hW8 : w7.drewN nq = W8 at *
                        clear hW8 FQ y2 y3 y4 y5 y6 z0 z1 z2 z3 z4 hz HQ7 HC7 DB7 SP7
                        have y2 : W8.cell? ⟨wr.heap.size, 2, none⟩ = some (.int .i64 d.page.id) := ((blk_cells DB8).1 2).trans HV.out.2.2.1
                        have y3 : W8.cell? ⟨wr.heap.size, 3, none⟩ = some (.int .i64 d.page.lsn) := ((blk_cells DB8).1 3).trans HV.out.2.2.2.1
                        have y4 : W8.cell? ⟨wr.heap.size, 4, none⟩ = some (.int .i64 d.page.level) := ((blk_cells DB8).1 4).trans HV.out.2.2.2.2.1
                        have y5 : W8.cell? ⟨wr.heap.size, 5, none⟩ = some (.int .i64 d.page.next) := ((blk_cells DB8).1 5).trans HV.out.2.2.2.2.2.1
                        have y6 : W8.cell? ⟨wr.heap.size, 6, none⟩ = some (.slice PA pn pc) := ((blk_cells DB8).1 6).trans HV.out.2.2.2.2.2.2.1
                        go_wp2_with fail
                        refine (ref_page (p := d.page) SP8.out HOK.out.ents).mono ?_
                        rintro e w9 ⟨RA, rc, rfl, hr90, f9⟩
                        have hr9 := hr90.sl_in (T := From W8.heap.size) (fun b (hb : W8.heap.size + 2 ≤ b) _ => by show W8.heap.size ≤ b; omega) (fun b hb _ => by show W8.heap.size ≤ b; omega)
                        obtain ⟨g', A9, n9, c9, hg', hg1, hg2, z0, z1, z2, z3, z4, hz, _⟩ := own_page_at (HQ8.out.hv.all f9) HI.out
                        obtain rfl : g = g' := (Addr.mk.inj (Option.some.inj hg')).1
                        have hne : ∀ b, From W8.heap.size b → b < w9.heap.size → (Off B l t b ∧ some b ≠ (Value.slice WA M wc).ownBlock) ∧ some b ≠ (Value.slice (some ⟨g, 0, none⟩) L uc).ownBlock := fun b (hb : W8.heap.size ≤ b) _ => by
                          have h1 := HQ8.out.bB
                          have h2 := HQ8.out.bl
                          have h3 := HQ8.out.bt
                          have h4 := HQ8.out.le
                          exact ⟨⟨⟨by omega, by omega, by omega⟩, fun hh => by have := (HQ8.out.wb hh.symm).2.2; omega⟩, fun hh => by have := (HQ8.out.ub hh.symm).2.2; omega⟩
                        obtain ⟨g', gc, hvv, hg3, hg4, hz9, ho⟩ := own_page_put (HQ8.out.hv.all f9) (k := i) (by rw [HL.out]; exact hiL) d.page (hr9.mono hne)
                        obtain rfl : g = g' := (Addr.mk.inj (Option.some.inj (Value.slice.inj hvv).1)).1
                        have HO9 := Lib.hid ho
                        have DB9 := (f9.block _ (blk_lt DB8) trivial).trans DB8
                        clear hvv hg' ho hne hr9 hr90 y2 y3 y4 y5 y6 hg1 hg2 hg3 hg4
                        go_upto_region 41 with fail
                        refine wp_name ?_
                        intro W9 hW9
                        have ho := HO9.out
                        rw [← hW9] at ho
                        have hf : Fr (fun b => b ≠ g) w9 W9 := by
                          rw [hW9]
                          repeat (first | (with_reducible exact Fr.refl _ _) | with_reducible refine Fr.setCell ?_ (fun m hm => by exact hm) _)
                        have FG : Fr (But (Value.slice (some ⟨g, 0, none⟩) L uc).ownBlock) w9 W9 := hf.mono fun b hb he => hb (by rw [he]; rfl)
                        have HQ9 := Lib.hid (HQ8.out.pages f9 FG ho (.inl rfl))
                        have HC9 := Lib.hid ((HC8.out.move f9 trivial trivial).move hf (fun hh => by have := HGR.out; have := HBB.out.1; have := h34; omega) (fun hh => by have := HGR.out; have := HBB.out.2; have := h34; omega))
                        have DBA := (hf.block _ (blk_lt DB9) (fun hh => by have := HGR.out; omega)).trans DB9
                        have y2 : W9.cell? ⟨wr.heap.size, 2, none⟩ = some (.int .i64 d.page.id) := ((blk_cells DBA).1 2).trans HV.out.2.2.1
                        clear hW9 ho hf FG z0 z1 z2 z3 z4 hz hz9 HO9 HQ8 HC8 DB8 DB9 f9
                        go_wp2_with fail
                        refine (without_call HQ9.out.ws.sl (by have := HW6.out; omega)).mono ?_
                        rintro e w10 ⟨zs, ZA, zc, rfl, HZ, hz, f10⟩
                        go_wp2_with fail
                        go_meet
                        case rel =>
                          have hp : s.puts d.page = (s.unwant d.page.id).has d.page.id d.page := by unfold PSt.puts; rw [HMP.out]; exact if_pos HLE.out
                          refine ⟨s.puts d.page, hv.set i d.page, zs, by have := HL6.out; rw [List.length_set]; omega, Lib.hid ?_, Lib.hid (HQ9.out.nums (f10.mono fun _ _ => trivial) hz (Nat.le_refl _)), Lib.hid (HC9.out.move f10 trivial trivial)⟩
                          rw [hp, HZ.out]
                          have h9 := (HP.out.unwant d.page.id).set HI.out HID.out.symm HOK.out
                          rwa [HID.out] at h9
                      · have hdl : decide (p.lsn ≤ d.page.lsn) = false := decide_eq_false hle
                        have HLE := Lib.hid (show d.page.lsn < p.lsn by omega)
                        clear hle
                        go_upto_region 39 with fail
                        go_quiet (fail)
                        have FQ := (Fr.refl All w7).drewN nq
                        have HQ8 := Lib.hid (HQ7.out.all FQ)
                        have HC8 := Lib.hid (HC7.out.move FQ trivial trivial)
                        have DB8 := (FQ.block _ (blk_lt DB7) trivial).trans DB7
                        generalize hW8 : w7.drewN nq = W8 at *
                        clear hW8 FQ y2 y3 y4 y5 y6 z0 z1 z2 z3 z4 hz HQ7 HC7 DB7 SP7
                        have y2 : W8.cell? ⟨wr.heap.size, 2, none⟩ = some (.int .i64 d.page.id) := ((blk_cells DB8).1 2).trans HV.out.2.2.1
                        go_wp2_with fail
                        refine (without_call HQ8.out.ws.sl (by have := HW6.out; omega)).mono ?_
                        rintro e w10 ⟨zs, ZA, zc, rfl, HZ, hz, f10⟩
                        go_wp2_with fail
                        go_meet
                        case rel =>
                          have hp : s.puts d.page = s.unwant d.page.id := by unfold PSt.puts; rw [HMP.out]; exact if_neg (by have := HLE.out; omega)
                          refine ⟨s.puts d.page, hv, zs, by have := HL6.out; omega, Lib.hid ?_, Lib.hid (HQ8.out.nums (f10.mono fun _ _ => trivial) hz (Nat.le_refl _)), Lib.hid (HC8.out.move f10 trivial trivial)⟩
                          rw [hp, HZ.out]
                          exact HP.out.unwant d.page.id
              · have hkb : (d.kind == 1) = false := by rw [beq_eq_false_iff_ne]; exact hk1
                by_cases hk2 : d.kind = 2
                · have hkb2 : (d.kind == 2) = true := by rw [beq_iff_eq]; exact hk2
                  clear hk1 hk2
                  have y1 : w4.cell? ⟨wr.heap.size, 1, none⟩ = some (.int .i64 d.n) := ((blk_cells DB4).1 1).trans HV.out.2.1
                  cases hm : s.have_ d.n with
                  | some p =>
                    as_aux_lemma =>
                      have HPM := Lib.hid ((HP.out.have_ d.n p).1 hm)
                      have HPO := Lib.hid (HP.out.ok p HPM.out.1)
                      have HMM := Lib.hid hm
                      go_wp2_with fail
                      refine (pool_get_some HQ4.out.pk HN64.out HMM.out HPO.out.ents).mono ?_
                      rintro e w5 ⟨GA, gc, rfl, hg, _, f5⟩
                      obtain ⟨W5, hW5⟩ : ∃ W, w5.alloc (.cells #[.int .i64 p.id, .int .i64 p.lsn, .int .i64 p.level, .int .i64 p.next, .slice GA p.ents.length gc] 30) = W := ⟨_, rfl⟩
                      have BX := heap_alloc_new w5 (.cells #[.int .i64 p.id, .int .i64 p.lsn, .int .i64 p.level, .int .i64 p.next, .slice GA p.ents.length gc] 30)
                      have FX := (Fr.refl All w5).alloc (.cells #[.int .i64 p.id, .int .i64 p.lsn, .int .i64 p.level, .int .i64 p.next, .slice GA p.ents.length gc] 30)
                      rw [hW5] at BX FX
                      have FB := f5.trans FX
                      have HG5 := Lib.hid (hg.all FX)
                      have HQ5 := Lib.hid (HQ4.out.all FB)
                      have HC5 := Lib.hid (HC4.out.move FB trivial trivial)
                      have DB5 := (FB.block _ (blk_lt DB4) trivial).trans DB4
                      clear y0 y1 hm hg f5 FX FB DB4 HQ4 HC4 F4
                      have y1 : W5.cell? ⟨wr.heap.size, 1, none⟩ = some (.int .i64 d.n) := ((blk_cells DB5).1 1).trans HV.out.2.1
                      go_wp2_with fail
                      refine (find_call HQ5.out.hv.sl (by have := HL6.out; omega)).mono ?_
                      rintro e w6 ⟨r, rfl, HR, hw6⟩
                      obtain rfl := hw6.symm
                      clear hw6 hW5 y1
                      rcases HR.out with ⟨hr, hno⟩ | ⟨i, q, hr, hi, hid⟩
                      · exact absurd HPM.out.2 (hno p HPM.out.1)
                      · subst hr
                        have hqp : q = p := Option.some.inj ((HP.out.at_ hi).symm.trans (by rw [hid]; exact HMM.out))
                        rw [hqp] at hi
                        have hiL : i < L := by rw [← HL.out]; exact (List.getElem?_eq_some_iff.1 hi).1
                        have i0 : (0 : Int) ≤ (i : Int) := by omega
                        have i1 : (i : Int) < (L : Int) := by omega
                        have hge : decide ((i : Int) ≥ 0) = true := decide_eq_true i0
                        obtain ⟨b9, o9, A9, n9, c9, rfl, z0, z1, z2, z3, z4, hs9⟩ := page_row_at HQ5.out.hv.sl hi
                        have HS9 := Lib.hid hs9
                        obtain ⟨x0, x1, x2, x3, x4, xz⟩ := blk5 BX
                        clear hs9 hi hid hqp HR HMM xz BX DB5
                        go_upto_region 45 with fail
                        refine wp_region_all (S := fun w' => w'.cell? ⟨w5.heap.size, 0, none⟩ = some (.int .i64 p.id) ∧ w'.cell? ⟨w5.heap.size, 1, none⟩ = some (.int .i64 p.lsn) ∧ w'.cell? ⟨w5.heap.size, 2, none⟩ = some (.int .i64 p.level) ∧ w'.cell? ⟨w5.heap.size, 3, none⟩ = some (.int .i64 p.next) ∧ w'.cell? ⟨w5.heap.size, 4, none⟩ = some (.slice GA p.ents.length gc) ∧ w'.cell? ⟨b9, o9 + i * 5, none⟩ = some (.int .i64 p.id) ∧ w'.cell? ⟨b9, o9 + i * 5 + 1, none⟩ = some (.int .i64 p.lsn) ∧ w'.cell? ⟨b9, o9 + i * 5 + 2, none⟩ = some (.int .i64 p.level) ∧ w'.cell? ⟨b9, o9 + i * 5 + 3, none⟩ = some (.int .i64 p.next) ∧ w'.cell? ⟨b9, o9 + i * 5 + 4, none⟩ = some (.slice A9 n9 c9)) (by kernel_rfl) ⟨x0, x1, x2, x3, x4, z0, z1, z2, z3, z4⟩ (fun hHeld => ?_)
                        refine wpAnyH_take (i := 0) (v := ?_) rfl (by kernel_rfl) (by kernel_rfl) (by kernel_rfl) (fun _ _ _ h => h) (Or.inl ⟨by rfl, ?_⟩) (by assumption) ?_
                        rotate_left
                        · (intro w hSw; (try dsimp only at hSw); go_simp; try with_reducible rfl)
                        try simp only [List.getElem_toArray, List.getElem_cons_succ, List.getElem_cons_zero, Act.put, List.setIfInBounds_toArray, List.set_cons_succ, List.set_cons_zero]
                        refine wpAnyH_take (i := 1) (v := ?_) rfl (by kernel_rfl) (by kernel_rfl) (by kernel_rfl) (fun _ _ _ h => h) (Or.inl ⟨by rfl, ?_⟩) (by assumption) ?_
                        rotate_left
                        · (intro w hSw; (try dsimp only at hSw); go_simp; try with_reducible rfl)
                        try simp only [List.getElem_toArray, List.getElem_cons_succ, List.getElem_cons_zero, Act.put, List.setIfInBounds_toArray, List.set_cons_succ, List.set_cons_zero]
                        refine wpAnyH_take (i := 2) (v := ?_) rfl (by kernel_rfl) (by kernel_rfl) (by kernel_rfl) (fun _ _ _ h => h) (Or.inl ⟨by rfl, ?_⟩) (by assumption) ?_
                        rotate_left
                        · (intro w hSw; (try dsimp only at hSw); go_simp; try with_reducible rfl)
                        try simp only [List.getElem_toArray, List.getElem_cons_succ, List.getElem_cons_zero, Act.put, List.setIfInBounds_toArray, List.set_cons_succ, List.set_cons_zero]
                        refine wpAnyH_take (i := 3) (v := ?_) rfl (by kernel_rfl) (by kernel_rfl) (by kernel_rfl) (fun _ _ _ h => h) (Or.inl ⟨by rfl, ?_⟩) (by assumption) ?_
                        rotate_left
                        · (intro w hSw; (try dsimp only at hSw); go_simp; try with_reducible rfl)
                        try simp only [List.getElem_toArray, List.getElem_cons_succ, List.getElem_cons_zero, Act.put, List.setIfInBounds_toArray, List.set_cons_succ, List.set_cons_zero]
                        refine wpAnyH_take (i := 4) (v := ?_) rfl (by kernel_rfl) (by kernel_rfl) (by kernel_rfl) (fun _ _ _ h => h) (Or.inl ⟨by rfl, ?_⟩) (by assumption) ?_
                        rotate_left
                        · (intro w hSw; (try dsimp only at hSw); go_simp; try with_reducible rfl)
                        try simp only [List.getElem_toArray, List.getElem_cons_succ, List.getElem_cons_zero, Act.put, List.setIfInBounds_toArray, List.set_cons_succ, List.set_cons_zero]
                        refine wpAnyH_take (i := 5) (v := ?_) rfl (by kernel_rfl) (by kernel_rfl) (by kernel_rfl) (fun _ _ _ h => h) (Or.inl ⟨by rfl, ?_⟩) (by assumption) ?_
                        rotate_left
                        · (intro w hSw; (try dsimp only at hSw); go_simp; try with_reducible rfl)
                        try simp only [List.getElem_toArray, List.getElem_cons_succ, List.getElem_cons_zero, Act.put, List.setIfInBounds_toArray, List.set_cons_succ, List.set_cons_zero]
                        refine wpAnyH_take (i := 6) (v := ?_) rfl (by kernel_rfl) (by kernel_rfl) (by kernel_rfl) (fun _ _ _ h => h) (Or.inl ⟨by rfl, ?_⟩) (by assumption) ?_
                        rotate_left
                        · (intro w hSw; (try dsimp only at hSw); go_simp; try with_reducible rfl)
                        try simp only [List.getElem_toArray, List.getElem_cons_succ, List.getElem_cons_zero, Act.put, List.setIfInBounds_toArray, List.set_cons_succ, List.set_cons_zero]
                        refine wpAnyH_take (i := 7) (v := ?_) rfl (by kernel_rfl) (by kernel_rfl) (by kernel_rfl) (fun _ _ _ h => h) (Or.inl ⟨by rfl, ?_⟩) (by assumption) ?_
                        rotate_left
                        · (intro w hSw; (try dsimp only at hSw); go_simp; try with_reducible rfl)
                        try simp only [List.getElem_toArray, List.getElem_cons_succ, List.getElem_cons_zero, Act.put, List.setIfInBounds_toArray, List.set_cons_succ, List.set_cons_zero]
                        refine wpAnyH_take (i := 8) (v := ?_) rfl (by kernel_rfl) (by kernel_rfl) (by kernel_rfl) (fun _ _ _ h => h) (Or.inl ⟨by rfl, ?_⟩) (by assumption) ?_
                        rotate_left
                        · (intro w hSw; (try dsimp only at hSw); go_simp; try with_reducible rfl)
                        try simp only [List.getElem_toArray, List.getElem_cons_succ, List.getElem_cons_zero, Act.put, List.setIfInBounds_toArray, List.set_cons_succ, List.set_cons_zero]
                        refine wpAnyH_take (i := 9) (v := ?_) rfl (by kernel_rfl) (by kernel_rfl) (by kernel_rfl) (fun _ _ _ h => h) (Or.inl ⟨by rfl, ?_⟩) (by assumption) ?_
                        rotate_left
                        · (intro w hSw; (try dsimp only at hSw); go_simp; try with_reducible rfl)
                        try simp only [List.getElem_toArray, List.getElem_cons_succ, List.getElem_cons_zero, Act.put, List.setIfInBounds_toArray, List.set_cons_succ, List.set_cons_zero]
                        refine wpAnyH_take (i := 10) (v := ?_) rfl (by kernel_rfl) (by kernel_rfl) (by kernel_rfl) (fun _ _ _ h => h) (Or.inl ⟨by rfl, ?_⟩) (by assumption) ?_
                        rotate_left
                        · (intro w hSw; (try dsimp only at hSw); go_simp; try with_reducible rfl)
                        try simp only [List.getElem_toArray, List.getElem_cons_succ, List.getElem_cons_zero, Act.put, List.setIfInBounds_toArray, List.set_cons_succ, List.set_cons_zero]
                        refine wpAnyH_take (i := 11) (v := ?_) rfl (by kernel_rfl) (by kernel_rfl) (by kernel_rfl) (fun _ _ _ h => h) (Or.inl ⟨by rfl, ?_⟩) (by assumption) ?_
                        rotate_left
                        · (intro w hSw; (try dsimp only at hSw); go_simp; try with_reducible rfl)
                        try simp only [List.getElem_toArray, List.getElem_cons_succ, List.getElem_cons_zero, Act.put, List.setIfInBounds_toArray, List.set_cons_succ, List.set_cons_zero]
                        refine wpAnyH_ready (rs := [12]) (by kernel_rfl) (by simp) (AllReadyH.cons rfl (fun K hK => ?_) AllReadyH.nil)
                        go_simp
                        refine (same_page (p := p) (HG5.out.all (Fr.refl All W5).drew) (HS9.out.all (Fr.refl All W5).drew) (by have := HPO.out.en; omega) (fun x hx => by have := HPO.out.es x hx; omega)).mono ?_
                        rintro e w6 ⟨rfl, f6⟩
                        go_simp
                        have f7 : Fr All W5 w6 := (Fr.refl All W5).drew.trans f6
                        refine hK.out _ _ ⟨f7.cell trivial x0, f7.cell trivial x1, f7.cell trivial x2, f7.cell trivial x3, f7.cell trivial x4, f7.cell trivial z0, f7.cell trivial z1, f7.cell trivial z2, f7.cell trivial z3, f7.cell trivial z4⟩ (fun hHeld => ?_)
                        clear hK K
                        try simp only [List.getElem_toArray, List.getElem_cons_succ, List.getElem_cons_zero, Act.put, List.setIfInBounds_toArray, List.set_cons_succ, List.set_cons_zero]
                        clear x0 x1 x2 x3 x4 z0 z1 z2 z3 z4
                        refine wpAnyH_take (i := 13) (v := ?_) rfl (by kernel_rfl) (by kernel_rfl) (by kernel_rfl) (fun _ _ _ h => h) (Or.inl ⟨by rfl, ?_⟩) (by assumption) ?_
                        rotate_left
                        · (intro w hSw; (try dsimp only at hSw); go_simp; try with_reducible rfl)
                        try simp only [List.getElem_toArray, List.getElem_cons_succ, List.getElem_cons_zero, Act.put, List.setIfInBounds_toArray, List.set_cons_succ, List.set_cons_zero]
                        refine wpAnyH_take (i := 14) (v := ?_) rfl (by kernel_rfl) (by kernel_rfl) (by kernel_rfl) (fun _ _ _ h => h) (Or.inl ⟨by rfl, ?_⟩) (by assumption) ?_
                        rotate_left
                        · (intro w hSw; (try dsimp only at hSw); go_simp; try with_reducible rfl)
                        try simp only [List.getElem_toArray, List.getElem_cons_succ, List.getElem_cons_zero, Act.put, List.setIfInBounds_toArray, List.set_cons_succ, List.set_cons_zero]
                        refine wpAnyH_take (i := 15) (v := ?_) rfl (by kernel_rfl) (by kernel_rfl) (by kernel_rfl) (fun _ _ _ h => h) (Or.inl ⟨by rfl, ?_⟩) (by assumption) ?_
                        rotate_left
                        · (intro w hSw; (try dsimp only at hSw); go_simp; try with_reducible rfl)
                        try simp only [List.getElem_toArray, List.getElem_cons_succ, List.getElem_cons_zero, Act.put, List.setIfInBounds_toArray, List.set_cons_succ, List.set_cons_zero]
                        refine wpAnyH_done (by kernel_rfl) ?_ _
                        go_wp2_with fail
                        go_meet
                        case rel => exact ⟨s, hv, ws, by have := HL6.out; omega, HP, Lib.hid (HQ5.out.all f7), Lib.hid (HC5.out.move f7 trivial trivial)⟩
                  | none =>
                    have HMM := Lib.hid hm
                    by_cases hin : 0 ≤ d.n ∧ d.n < 256
                    · (skip)
                      as_aux_lemma =>
                        have hinb : inB d.n 256 = true := by unfold inB; rw [decide_eq_true hin.1, decide_eq_true hin.2]; rfl
                        have HIN := Lib.hid hin
                        go_wp2_with fail
                        refine (pool_get_none HQ4.out.pk HIN.out.1 HIN.out.2 HMM.out (by have := HP.out.nw_le; omega)).mono ?_
                        rintro e w5 ⟨rfl, hk5, f5⟩
                        go_upto_region 44 with fail
                        refine wp_name ?_
                        intro W5 hW5
                        have FX : Fr All w5 W5 := by rw [hW5]; exact (Fr.refl All w5).alloc _
                        have HQ5 := Lib.hid ((HQ4.out.pool f5 hk5).all FX)
                        have HC5 := Lib.hid ((HC4.out.move f5 HOB.out HOL.out).move FX trivial trivial)
                        have DB5 := (FX.block _ (Nat.lt_of_lt_of_le (blk_lt DB4) f5.size) trivial).trans ((f5.block _ (blk_lt DB4) HOD.out).trans DB4)
                        clear y0 y1 hm hin hk5 f5 FX DB4 HQ4 HC4 F4 hW5
                        have y1 : W5.cell? ⟨wr.heap.size, 1, none⟩ = some (.int .i64 d.n) := ((blk_cells DB5).1 1).trans HV.out.2.1
                        go_wp2_with fail
                        refine (find_call HQ5.out.hv.sl (by have := HL6.out; omega)).mono ?_
                        rintro e w6 ⟨r, rfl, HR, hw6⟩
                        obtain rfl := hw6.symm
                        clear hw6
                        rcases HR.out with ⟨hr, hno⟩ | ⟨i, q, hr, hi, hid⟩
                        · subst hr
                          clear hno HR
                          go_upto_region 45 with fail
                          go_quiet (fail)
                          have y1 : (W5.drewN nq).cell? ⟨wr.heap.size, 1, none⟩ = some (.int .i64 d.n) := y1
                          have FQ : Fr All W5 (W5.drewN nq) := (Fr.refl All W5).drewN nq
                          generalize hW6 : W5.drewN nq = W6 at *
                          have HQ6 := Lib.hid (HQ5.out.all FQ)
                          have HC6 := Lib.hid (HC5.out.move FQ trivial trivial)
                          clear hW6 FQ HQ5 HC5
                          go_wp2_with fail
                          refine (ref_page_in d.n _).mono ?_
                          rintro e w7 ⟨rfl, hw7⟩
                          obtain rfl := hw7.symm
                          clear hw7
                          rw [hinb]
                          have HO2 := HQ6.out.ws.all ((Fr.refl All W6).alloc (.cells #[.int .i64 d.n] 3))
                          have HY : Src kInt Nowhere (W6.alloc (.cells #[.int .i64 d.n] 3)) (.slice (some ⟨W6.heap.size, 0, none⟩) 1 1) [d.n] := Src.box (d := kInt) (x := d.n) (cs := [.int .i64 d.n]) rfl _ 1
                          have hlen9 : (ws.length + [d.n].length) * 8 ≤ 140737488355328 := by have := HW6.out; simp only [List.length_singleton]; omega
                          have hbase9 : w1.heap.size ≤ (W6.alloc (.cells #[.int .i64 d.n] 3)).heap.size := Nat.le_trans HQ6.out.le ((Fr.refl All W6).alloc (.cells #[.int .i64 d.n] 3)).size
                          clear hinb
                          go_wp2_with (at_builtin; refine wpList_app rfl rfl Tryd.underlying27 infoI rfl (by decide) HO2 HY rfl rfl (fun _ h _ => h.elim) hlen9 hbase9 ?_; intro v8 w8 h8 g8 k8; obtain ⟨A8, c8, hv8⟩ := h8.length; obtain ⟨K8, hK8⟩ : ∃ K, (ws ++ [d.n]).length = K := ⟨_, rfl⟩; rw [hK8] at hv8; have HK8 := Lib.hid hK8; clear hK8; subst hv8)
                          refine (rising_call (A := A8) (n := K8) (c := c8) h8.sl (by have h1 := HW6.out; have h2 := HK8.out; rw [List.length_append, List.length_singleton] at h2; omega)).mono ?_
                          rintro e w9 ⟨v9, rfl, h9, f9⟩
                          have F9 : Fr (But (Value.slice WA M wc).ownBlock) W6 w9 := (((Fr.refl All W6).alloc (.cells #[.int .i64 d.n] 3)).mono fun _ _ => trivial).trans (g8.trans (f9.mono fun _ _ => trivial))
                          clear HO2 HY hlen9 hbase9 y1
                          go_wp2_with fail
                          go_meet
                          case rel =>
                            refine ⟨s.want d.n, hv, risingI (ws ++ [d.n]), by have := HL6.out; omega, Lib.hid (HP.out.want HIN.out.1 HIN.out.2 (rising_rise List.Pairwise.nil) fun k => ?_), Lib.hid (HQ6.out.nums F9 h9 ?_), Lib.hid (HC6.out.move F9 ?_ ?_)⟩
                            · unfold risingI
                              rw [rising_mem, List.mem_append, List.mem_singleton]
                              exact ⟨fun h => h.elim (fun h => by cases h) id, .inr⟩
                            · exact Nat.le_trans (Nat.le_succ _) (by have := g8.size; simpa using this)
                            · intro hh; have := HWB.out _ hh.symm; have := HBB.out.1; omega
                            · intro hh; have := HWB.out _ hh.symm; have := HBB.out.2; omega
                        · exact absurd (HP.out.at_ hi) (by rw [hid, HMM.out]; exact fun h => by cases h)
                    · skip
                      as_aux_lemma =>
                        have hinb : inB d.n 256 = false := by
                          unfold inB
                          by_cases h0 : 0 ≤ d.n
                          · rw [decide_eq_true h0, decide_eq_false (by omega)]; rfl
                          · rw [decide_eq_false h0]; rfl
                        have HIN := Lib.hid hin
                        go_wp2_with fail
                        refine (pool_get_no HQ4.out.pk HN64.out HIN.out HMM.out).mono ?_
                        rintro e w5 ⟨rfl, _, f5⟩
                        go_upto_region 44 with fail
                        refine wp_name ?_
                        intro W5 hW5
                        have FX : Fr All w5 W5 := by rw [hW5]; exact (Fr.refl All w5).alloc _
                        have FB := f5.trans FX
                        have HQ5 := Lib.hid (HQ4.out.all FB)
                        have HC5 := Lib.hid (HC4.out.move FB trivial trivial)
                        have DB5 := (FB.block _ (blk_lt DB4) trivial).trans DB4
                        clear y0 y1 hm hin f5 FX FB DB4 HQ4 HC4 F4 hW5
                        have y1 : W5.cell? ⟨wr.heap.size, 1, none⟩ = some (.int .i64 d.n) := ((blk_cells DB5).1 1).trans HV.out.2.1
                        go_wp2_with fail
                        refine (find_call HQ5.out.hv.sl (by have := HL6.out; omega)).mono ?_
                        rintro e w6 ⟨r, rfl, HR, hw6⟩
                        obtain rfl := hw6.symm
                        clear hw6
                        rcases HR.out with ⟨hr, hno⟩ | ⟨i, q, hr, hi, hid⟩
                        · subst hr
                          clear hno HR
                          go_upto_region 45 with fail
                          go_quiet (fail)
                          have y1 : (W5.drewN nq).cell? ⟨wr.heap.size, 1, none⟩ = some (.int .i64 d.n) := y1
                          have FQ : Fr All W5 (W5.drewN nq) := (Fr.refl All W5).drewN nq
                          generalize hW6 : W5.drewN nq = W6 at *
                          clear hW6
                          go_wp2_with fail
                          refine (ref_page_in d.n _).mono ?_
                          rintro e w7 ⟨rfl, hw7⟩
                          obtain rfl := hw7.symm
                          clear hw7
                          rw [hinb]
                          clear hinb
                          go_wp2_with fail
                          go_meet
                          case rel => exact ⟨s, hv, ws, by have := HL6.out; omega, HP, Lib.hid (HQ5.out.all FQ), Lib.hid (HC5.out.move FQ trivial trivial)⟩
                        · exact absurd (HP.out.at_ hi) (by rw [hid, HMM.out]; exact fun h => by cases h)
                · have hkb2 : (d.kind == 2) = false := by rw [beq_eq_false_iff_ne]; exact hk2
                  by_cases hk3 : d.kind = 3
                  · have hkb3 : (d.kind == 3) = true := by rw [beq_iff_eq]; exact hk3
                    clear hk1 hk2 hk3
                    as_aux_lemma =>
                      have y11 : w4.cell? ⟨wr.heap.size, 11, none⟩ = some (.int .i64 d.redo.page) := ((blk_cells DB4).1 11).trans HV.out.2.2.2.2.2.2.2.2.2.2.2.1
                      have y12 : w4.cell? ⟨wr.heap.size, 12, none⟩ = some (.int .i64 d.redo.kind) := ((blk_cells DB4).1 12).trans HV.out.2.2.2.2.2.2.2.2.2.2.2.2.1
                      have HVB := Lib.hid (validIx_none HVX.out)
                      have HI64 : Hid (In64 d.redo.page) := Lib.hid (in64_of (by have := HVB.out; omega) (by have := HVB.out; omega))
                      go_wp2_with fail
                      refine (find_call HQ4.out.hv.sl (by have := HL6.out; omega)).mono ?_
                      rintro e w5 ⟨r, rfl, HR, hw5⟩
                      obtain rfl := hw5.symm
                      clear hw5 y0
                      rcases HR.out with ⟨hr, hno⟩ | ⟨i, p, hr, hi, hid⟩
                      · subst hr
                        have HNO := Lib.hid hno
                        have HMM : Hid (s.have_ d.redo.page = none) := Lib.hid (HP.out.no hno)
                        clear hno HR
                        by_cases hkf : d.redo.kind = 1
                        · have hkfb : (d.redo.kind == 1) = true := by rw [beq_iff_eq]; exact hkf
                          have HKF := Lib.hid hkf
                          clear hkf
                          go_wp2_with fail
                          refine (ref_new d.redo.page _).mono ?_
                          rintro e w5 ⟨rfl, f5⟩
                          obtain ⟨W5, hW5⟩ : ∃ W, w5.alloc (.cells #[.int .i64 d.redo.page, .int .i64 0, .int .i64 0, .int .i64 (-1), .slice none 0 0] 30) = W := ⟨_, rfl⟩
                          have FB := f5.alloc (.cells #[.int .i64 d.redo.page, .int .i64 0, .int .i64 0, .int .i64 (-1), .slice none 0 0] 30)
                          have HY := Src.box (d := kPage) (kPage_mk (x := (⟨d.redo.page, 0, 0, -1, []⟩ : Page)) (Sl.nil_ kEnt Nowhere w5)) 30 1
                          change Src kPage _ (w5.alloc (.cells #[.int .i64 d.redo.page, .int .i64 0, .int .i64 0, .int .i64 (-1), .slice none 0 0] 30)) _ _ at HY
                          rw [hW5] at FB HY
                          have HO5 := HQ4.out.hv.all FB
                          have DB5 := (FB.block _ (blk_lt DB4) trivial).trans DB4
                          have hlen9 : (hv.length + [(⟨d.redo.page, 0, 0, -1, []⟩ : Page)].length) * 56 ≤ 140737488355328 := by have := HL6.out; simp only [List.length_singleton]; omega
                          have HL9 := Lib.hid hlen9
                          have HB9 : Hid (w1.heap.size ≤ W5.heap.size) := Lib.hid (Nat.le_trans HQ4.out.le FB.size)
                          have hne : ∀ b, Nowhere b → b < W5.heap.size → (Off B l t b ∧ some b ≠ (Value.slice WA M wc).ownBlock) ∧ some b ≠ (Value.slice UA L uc).ownBlock := fun _ h _ => h.elim
                          have HNE := Lib.hid hne
                          clear hne hlen9 f5 y11 y12 hkfb
                          go_upto_region 53 with (at_builtin; refine wpList_app rfl rfl Tryd.underlying26 info_page rfl (by decide) HO5 HY rfl rfl HNE.out HL9.out HB9.out ?_; intro v6 w6 h6 g6 k6)
                          have DB6 := (g6.block _ (blk_lt DB5) (fun hh => by have := HUB.out _ hh.symm; omega)).trans DB5
                          have hQ6 := HQ4.out.pages FB g6 h6 (k6.imp id fun hk x hx => by rw [hk] at hx; have := Option.some.inj hx; have := FB.size; omega)
                          have HC6 := Lib.hid (HC4.out.move ((FB.mono fun _ _ => trivial).trans g6) (fun hh => by have := HUB.out _ hh.symm; have := HBB.out.1; have := h34; omega) (fun hh => by have := HUB.out _ hh.symm; have := HBB.out.2; have := h34; omega))
                          have HS6 := Lib.hid (((S0.out.all F4).all FB).move' g6 (fun b hb _ => HXB.out b hb))
                          have HT6 := Lib.hid (((S1.out.all F4).all FB).move' g6 (fun b hb _ => HXB.out b hb))
                          obtain ⟨A6, c6, hv6⟩ := h6.length
                          rw [List.length_append, List.length_singleton, HL.out] at hv6
                          subst hv6
                          have HQ6 := Lib.hid hQ6
                          have y11 : w6.cell? ⟨wr.heap.size, 11, none⟩ = some (.int .i64 d.redo.page) := ((blk_cells DB6).1 11).trans HV.out.2.2.2.2.2.2.2.2.2.2.2.1
                          have HK6 := Lib.hid k6
                          have HW5 : Hid (B' < w4.heap.size ∧ l' < w4.heap.size ∧ w4.heap.size ≤ W5.heap.size) := Lib.hid ⟨World.block_lt_of_cell? w4 ⟨B', 0, none⟩ HC4.out.c0, (by obtain ⟨mm, hmm⟩ := HC4.out.mv; exact hmm.lt), FB.size⟩
                          clear hW5 HO5 HY DB5 h6 g6 k6 FB hQ6 HQ4 HC4 DB4 F4
                          have hl1 : ((L + 1 : Nat) : Int) - 1 = (L : Int) := by omega
                          go_wp2_with fail
                          refine (without_call HQ6.out.ws.sl (by have := HW6.out; omega)).mono ?_
                          rintro e w7 ⟨zs, ZA, zc, rfl, HZ, hz, f7⟩
                          have DB7 := (f7.block _ (blk_lt DB6) trivial).trans DB6
                          have HQ7 := Lib.hid (HQ6.out.nums (f7.mono fun _ _ => trivial) hz (Nat.le_refl _))
                          have HC7 := Lib.hid (HC6.out.move f7 trivial trivial)
                          have HS7 := Lib.hid (HS6.out.all f7)
                          have HT7 := Lib.hid (HT6.out.all f7)
                          clear y11 hz f7 DB6 HQ6 HC6 HS6 HT6
                          have y7 : w7.cell? ⟨wr.heap.size, 7, none⟩ = some (.int .i64 d.redo.lsn) := ((blk_cells DB7).1 7).trans HV.out.2.2.2.2.2.2.2.1
                          have y8 : w7.cell? ⟨wr.heap.size, 8, none⟩ = some (.int .i64 d.redo.back) := ((blk_cells DB7).1 8).trans HV.out.2.2.2.2.2.2.2.2.1
                          have y9 : w7.cell? ⟨wr.heap.size, 9, none⟩ = some (.int .i64 d.redo.epoch) := ((blk_cells DB7).1 9).trans HV.out.2.2.2.2.2.2.2.2.2.1
                          have y10 : w7.cell? ⟨wr.heap.size, 10, none⟩ = some (.int .i64 d.redo.group) := ((blk_cells DB7).1 10).trans HV.out.2.2.2.2.2.2.2.2.2.2.1
                          have y11 : w7.cell? ⟨wr.heap.size, 11, none⟩ = some (.int .i64 d.redo.page) := ((blk_cells DB7).1 11).trans HV.out.2.2.2.2.2.2.2.2.2.2.2.1
                          have y12 : w7.cell? ⟨wr.heap.size, 12, none⟩ = some (.int .i64 d.redo.kind) := ((blk_cells DB7).1 12).trans HV.out.2.2.2.2.2.2.2.2.2.2.2.2.1
                          have y13 : w7.cell? ⟨wr.heap.size, 13, none⟩ = some (.int .i64 d.redo.slot) := ((blk_cells DB7).1 13).trans HV.out.2.2.2.2.2.2.2.2.2.2.2.2.2.1
                          have y14 : w7.cell? ⟨wr.heap.size, 14, none⟩ = some (.slice A0 n0 c0) := ((blk_cells DB7).1 14).trans HV.out.2.2.2.2.2.2.2.2.2.2.2.2.2.2.1
                          have y15 : w7.cell? ⟨wr.heap.size, 15, none⟩ = some (.slice A1 n1 c1) := ((blk_cells DB7).1 15).trans HV.out.2.2.2.2.2.2.2.2.2.2.2.2.2.2.2.1
                          have y16 : w7.cell? ⟨wr.heap.size, 16, none⟩ = some (.bool d.redo.last) := ((blk_cells DB7).1 16).trans HV.out.2.2.2.2.2.2.2.2.2.2.2.2.2.2.2.2
                          go_wp2_with fail
                          refine (apply_new (r := d.redo) HQ7.out.pk HI64.out HMM.out HKF.out HVX.out (fun x hx _ => (HXO.out x hx).2.2) (fun x hx _ => (HXO.out x hx).2.2) HS7.out HT7.out (by have := HVB.out; omega) (by have := HVB.out; omega) (by have := HVB.out; omega) (by have := HNN.out; omega)).mono ?_
                          rintro e wz ⟨rfl, hkz, fz⟩
                          have DBz := (fz.block _ (blk_lt DB7) HOD.out).trans DB7
                          have HCz := Lib.hid (HC7.out.move fz HOB.out HOL.out)
                          have S0z := Lib.hid (HS7.out.move' fz (fun b hb _ => HXO.out b hb))
                          have S1z := Lib.hid (HT7.out.move' fz (fun b hb _ => HXO.out b hb))
                          obtain ⟨p, hp⟩ : ∃ p, (⟨d.redo.page, 0, 0, -1, []⟩ : Page) = p := ⟨_, rfl⟩
                          have hQz := HQ7.out.pool fz hkz
                          rw [hp] at hQz
                          have HQz := Lib.hid hQz
                          have HPP := Lib.hid hp
                          have HSM : Hid (SmallP p) := Lib.hid (by rw [← hp]; exact ⟨Nat.zero_le _, fun e he => by cases he⟩)
                          have HOKp : Hid (PageOk p) := Lib.hid (by
                            rw [← hp]
                            have h1 := HVB.out
                            exact ⟨by dsimp only; omega, by dsimp only; omega, by dsimp only; omega, by dsimp only; omega, by dsimp only; omega, by dsimp only; omega, by dsimp only; omega, by dsimp only; omega, Nat.zero_le _, fun e he => by cases he⟩)
                          have HIz : Hid ((hv ++ [p])[L]? = some p) := Lib.hid (by rw [← HL.out, List.getElem?_concat_length])
                          obtain ⟨Lz, hLz⟩ : ∃ Lz, L + 1 = Lz := ⟨_, rfl⟩
                          obtain ⟨cz, hcz⟩ : ∃ cz, c6 = cz := ⟨_, rfl⟩
                          obtain ⟨wvz, hwvz⟩ : ∃ wvz, Value.slice ZA zs.length zc = wvz := ⟨_, rfl⟩
                          rw [hLz, hcz, hwvz] at HQz
                          rw [hLz, hcz, hwvz]
                          have i0 : (0 : Int) ≤ (L : Int) := by omega
                          have i1 : (L : Int) < (Lz : Int) := by omega
                          have hge : decide ((L : Int) ≥ 0) = true := decide_eq_true i0
                          obtain ⟨g, A9, n9, c9, rfl, hg1, hg2, z0, z1, z2, z3, z4, hz, hs9⟩ := own_page_at HQz.out.hv HIz.out
                          clear y7 y8 y9 y10 y11 y12 y13 y14 y15 y16 hkz hQz hp fz DB7 HQ7 HC7 HS7 HT7 hLz hcz hwvz
                          have y7 : wz.cell? ⟨wr.heap.size, 7, none⟩ = some (.int .i64 d.redo.lsn) := ((blk_cells DBz).1 7).trans HV.out.2.2.2.2.2.2.2.1
                          have y8 : wz.cell? ⟨wr.heap.size, 8, none⟩ = some (.int .i64 d.redo.back) := ((blk_cells DBz).1 8).trans HV.out.2.2.2.2.2.2.2.2.1
                          have y9 : wz.cell? ⟨wr.heap.size, 9, none⟩ = some (.int .i64 d.redo.epoch) := ((blk_cells DBz).1 9).trans HV.out.2.2.2.2.2.2.2.2.2.1
                          have y10 : wz.cell? ⟨wr.heap.size, 10, none⟩ = some (.int .i64 d.redo.group) := ((blk_cells DBz).1 10).trans HV.out.2.2.2.2.2.2.2.2.2.2.1
                          have y11 : wz.cell? ⟨wr.heap.size, 11, none⟩ = some (.int .i64 d.redo.page) := ((blk_cells DBz).1 11).trans HV.out.2.2.2.2.2.2.2.2.2.2.2.1
                          have y12 : wz.cell? ⟨wr.heap.size, 12, none⟩ = some (.int .i64 d.redo.kind) := ((blk_cells DBz).1 12).trans HV.out.2.2.2.2.2.2.2.2.2.2.2.2.1
                          have y13 : wz.cell? ⟨wr.heap.size, 13, none⟩ = some (.int .i64 d.redo.slot) := ((blk_cells DBz).1 13).trans HV.out.2.2.2.2.2.2.2.2.2.2.2.2.2.1
                          have y14 : wz.cell? ⟨wr.heap.size, 14, none⟩ = some (.slice A0 n0 c0) := ((blk_cells DBz).1 14).trans HV.out.2.2.2.2.2.2.2.2.2.2.2.2.2.2.1
                          have y15 : wz.cell? ⟨wr.heap.size, 15, none⟩ = some (.slice A1 n1 c1) := ((blk_cells DBz).1 15).trans HV.out.2.2.2.2.2.2.2.2.2.2.2.2.2.2.2.1
                          have y16 : wz.cell? ⟨wr.heap.size, 16, none⟩ = some (.bool d.redo.last) := ((blk_cells DBz).1 16).trans HV.out.2.2.2.2.2.2.2.2.2.2.2.2.2.2.2.2
                          have HGR : Hid (g ≠ B' ∧ g ≠ l') := Lib.hid (by
                            have h1 := HW5.out
                            have h2 := HBB.out
                            rcases HK6.out with h | h
                            · have h3 := HUB.out g (h.symm.trans (by rfl))
                              have := h34
                              omega
                            · have h3 : g = W5.heap.size := Option.some.inj h
                              omega)
                          have HS9 := Lib.hid hs9
                          clear hs9 hz hg1 hg2
                          go_upto_region 58 with fail
                          refine wp_region_last (S := fun w' => w'.cell? ⟨wr.heap.size, 7, none⟩ = some (.int .i64 d.redo.lsn) ∧ w'.cell? ⟨wr.heap.size, 8, none⟩ = some (.int .i64 d.redo.back) ∧ w'.cell? ⟨wr.heap.size, 9, none⟩ = some (.int .i64 d.redo.epoch) ∧ w'.cell? ⟨wr.heap.size, 10, none⟩ = some (.int .i64 d.redo.group) ∧ w'.cell? ⟨wr.heap.size, 11, none⟩ = some (.int .i64 d.redo.page) ∧ w'.cell? ⟨wr.heap.size, 12, none⟩ = some (.int .i64 d.redo.kind) ∧ w'.cell? ⟨wr.heap.size, 13, none⟩ = some (.int .i64 d.redo.slot) ∧ w'.cell? ⟨wr.heap.size, 14, none⟩ = some (.slice A0 n0 c0) ∧ w'.cell? ⟨wr.heap.size, 15, none⟩ = some (.slice A1 n1 c1) ∧ w'.cell? ⟨wr.heap.size, 16, none⟩ = some (.bool d.redo.last) ∧ w'.cell? ⟨g, L * 5, none⟩ = some (.int .i64 p.id) ∧ w'.cell? ⟨g, L * 5 + 1, none⟩ = some (.int .i64 p.lsn) ∧ w'.cell? ⟨g, L * 5 + 2, none⟩ = some (.int .i64 p.level) ∧ w'.cell? ⟨g, L * 5 + 3, none⟩ = some (.int .i64 p.next) ∧ w'.cell? ⟨g, L * 5 + 4, none⟩ = some (.slice A9 n9 c9)) 10 (by kernel_rfl) rfl (by kernel_rfl) ⟨y7, y8, y9, y10, y11, y12, y13, y14, y15, y16, z0, z1, z2, z3, z4⟩ (fun hHeld => ?_)
                          simp only [List.take_succ_cons, List.take_zero]
                          refine wpAnyH_take (i := 0) (v := ?_) rfl (by kernel_rfl) (by kernel_rfl) (by kernel_rfl) (fun _ _ _ h => h) (Or.inl ⟨by rfl, ?_⟩) (by assumption) ?_
                          rotate_left
                          · (intro w hSw; (try dsimp only at hSw); go_simp; try with_reducible rfl)
                          try simp only [List.getElem_toArray, List.getElem_cons_succ, List.getElem_cons_zero, Act.put, List.setIfInBounds_toArray, List.set_cons_succ, List.set_cons_zero]
                          refine wpAnyH_take (i := 1) (v := ?_) rfl (by kernel_rfl) (by kernel_rfl) (by kernel_rfl) (fun _ _ _ h => h) (Or.inl ⟨by rfl, ?_⟩) (by assumption) ?_
                          rotate_left
                          · (intro w hSw; (try dsimp only at hSw); go_simp; try with_reducible rfl)
                          try simp only [List.getElem_toArray, List.getElem_cons_succ, List.getElem_cons_zero, Act.put, List.setIfInBounds_toArray, List.set_cons_succ, List.set_cons_zero]
                          refine wpAnyH_take (i := 2) (v := ?_) rfl (by kernel_rfl) (by kernel_rfl) (by kernel_rfl) (fun _ _ _ h => h) (Or.inl ⟨by rfl, ?_⟩) (by assumption) ?_
                          rotate_left
                          · (intro w hSw; (try dsimp only at hSw); go_simp; try with_reducible rfl)
                          try simp only [List.getElem_toArray, List.getElem_cons_succ, List.getElem_cons_zero, Act.put, List.setIfInBounds_toArray, List.set_cons_succ, List.set_cons_zero]
                          refine wpAnyH_take (i := 3) (v := ?_) rfl (by kernel_rfl) (by kernel_rfl) (by kernel_rfl) (fun _ _ _ h => h) (Or.inl ⟨by rfl, ?_⟩) (by assumption) ?_
                          rotate_left
                          · (intro w hSw; (try dsimp only at hSw); go_simp; try with_reducible rfl)
                          try simp only [List.getElem_toArray, List.getElem_cons_succ, List.getElem_cons_zero, Act.put, List.setIfInBounds_toArray, List.set_cons_succ, List.set_cons_zero]
                          refine wpAnyH_take (i := 4) (v := ?_) rfl (by kernel_rfl) (by kernel_rfl) (by kernel_rfl) (fun _ _ _ h => h) (Or.inl ⟨by rfl, ?_⟩) (by assumption) ?_
                          rotate_left
                          · (intro w hSw; (try dsimp only at hSw); go_simp; try with_reducible rfl)
                          try simp only [List.getElem_toArray, List.getElem_cons_succ, List.getElem_cons_zero, Act.put, List.setIfInBounds_toArray, List.set_cons_succ, List.set_cons_zero]
                          refine wpAnyH_take (i := 5) (v := ?_) rfl (by kernel_rfl) (by kernel_rfl) (by kernel_rfl) (fun _ _ _ h => h) (Or.inl ⟨by rfl, ?_⟩) (by assumption) ?_
                          rotate_left
                          · (intro w hSw; (try dsimp only at hSw); go_simp; try with_reducible rfl)
                          try simp only [List.getElem_toArray, List.getElem_cons_succ, List.getElem_cons_zero, Act.put, List.setIfInBounds_toArray, List.set_cons_succ, List.set_cons_zero]
                          refine wpAnyH_take (i := 6) (v := ?_) rfl (by kernel_rfl) (by kernel_rfl) (by kernel_rfl) (fun _ _ _ h => h) (Or.inl ⟨by rfl, ?_⟩) (by assumption) ?_
                          rotate_left
                          · (intro w hSw; (try dsimp only at hSw); go_simp; try with_reducible rfl)
                          try simp only [List.getElem_toArray, List.getElem_cons_succ, List.getElem_cons_zero, Act.put, List.setIfInBounds_toArray, List.set_cons_succ, List.set_cons_zero]
                          refine wpAnyH_take (i := 7) (v := ?_) rfl (by kernel_rfl) (by kernel_rfl) (by kernel_rfl) (fun _ _ _ h => h) (Or.inl ⟨by rfl, ?_⟩) (by assumption) ?_
                          rotate_left
                          · (intro w hSw; (try dsimp only at hSw); go_simp; try with_reducible rfl)
                          try simp only [List.getElem_toArray, List.getElem_cons_succ, List.getElem_cons_zero, Act.put, List.setIfInBounds_toArray, List.set_cons_succ, List.set_cons_zero]
                          refine wpAnyH_ready (rs := [8]) (by kernel_rfl) (by simp) (AllReadyH.cons rfl (fun K hK => ?_) AllReadyH.nil)
                          go_simp
                          refine (ref_apply (p := p) (r := d.redo) (HS9.out.all (Fr.refl All wz).drew) HSM.out (S0z.out.all (Fr.refl All wz).drew) (S1z.out.all (Fr.refl All wz).drew) HVX.out).mono ?_
                          rintro e w9 ⟨RA, rc, rfl, hr9, f9⟩
                          go_simp
                          have F9 : Fr All wz w9 := (Fr.refl All wz).drew.trans f9
                          refine hK.out _ _ ⟨F9.cell trivial y7, F9.cell trivial y8, F9.cell trivial y9, F9.cell trivial y10, F9.cell trivial y11, F9.cell trivial y12, F9.cell trivial y13, F9.cell trivial y14, F9.cell trivial y15, F9.cell trivial y16, F9.cell trivial z0, F9.cell trivial z1, F9.cell trivial z2, F9.cell trivial z3, F9.cell trivial z4⟩ (fun hHeld => ?_)
                          clear hK K
                          try simp only [List.getElem_toArray, List.getElem_cons_succ, List.getElem_cons_zero, Act.put, List.setIfInBounds_toArray, List.set_cons_succ, List.set_cons_zero]
                          clear y7 y8 y9 y10 y11 y12 y13 y14 y15 y16 z0 z1 z2 z3 z4
                          refine wpAnyH_take (i := 9) (v := ?_) rfl (by kernel_rfl) (by kernel_rfl) (by kernel_rfl) (fun _ _ _ h => h) (Or.inl ⟨by rfl, ?_⟩) (by assumption) ?_
                          rotate_left
                          · (intro w hSw; (try dsimp only at hSw); go_simp; try with_reducible rfl)
                          try simp only [List.getElem_toArray, List.getElem_cons_succ, List.getElem_cons_zero, Act.put, List.setIfInBounds_toArray, List.set_cons_succ, List.set_cons_zero]
                          clear hHeld
                          obtain ⟨q, hq⟩ : ∃ q, papply p d.redo = q := ⟨_, rfl⟩
                          rw [hq] at hr9 ⊢
                          have HQQ := Lib.hid hq
                          have hne : ∀ b, From wz.heap.size b → b < w9.heap.size → (Off B l t b ∧ some b ≠ wvz.ownBlock) ∧ some b ≠ (Value.slice (some ⟨g, 0, none⟩) Lz cz).ownBlock := fun b (hb : wz.heap.size ≤ b) _ => by
                            have h1 := HQz.out.bB
                            have h2 := HQz.out.bl
                            have h3 := HQz.out.bt
                            have h4 := HQz.out.le
                            exact ⟨⟨⟨by omega, by omega, by omega⟩, fun hh => by have := (HQz.out.wb hh.symm).2.2; omega⟩, fun hh => by have := (HQz.out.ub hh.symm).2.2; omega⟩
                          obtain ⟨g', A8, n8, c8, hg', hg1, hg2, z0, z1, z2, z3, z4, hz, _⟩ := own_page_at (HQz.out.hv.all F9) HIz.out
                          obtain rfl : g = g' := (Addr.mk.inj (Option.some.inj hg')).1
                          obtain ⟨g', gc, hvv, hg3, hg4, hz9, ho⟩ := own_page_put (HQz.out.hv.all F9) (k := L) (List.getElem?_eq_some_iff.1 HIz.out).1 q (hr9.mono hne)
                          obtain rfl : g = g' := (Addr.mk.inj (Option.some.inj (Value.slice.inj hvv).1)).1
                          have HO9 := Lib.hid ho
                          clear hvv hg' ho hne hr9 hg1 hg2 hg3 hg4 hq
                          refine wpAnyH_done (by kernel_rfl) ?_ _
                          show wpList _ _ _ _ _ _
                          go_wp2_with fail
                          go_meet
                          case rel =>
                            have hf : Fr (fun b => b ≠ g) w9 (((((w9.setCell ⟨g, L * 5, none⟩ (.int .i64 q.id)).setCell ⟨g, L * 5 + 1, none⟩ (.int .i64 q.lsn)).setCell ⟨g, L * 5 + 2, none⟩ (.int .i64 q.level)).setCell ⟨g, L * 5 + 3, none⟩ (.int .i64 q.next)).setCell ⟨g, L * 5 + 4, none⟩ (.slice RA q.ents.length rc)) := by
                              repeat (first | (with_reducible exact Fr.refl _ _) | with_reducible refine Fr.setCell ?_ (fun m hm => by exact hm) _)
                            have FG : Fr (But (Value.slice (some ⟨g, 0, none⟩) Lz cz).ownBlock) w9 _ := hf.mono fun b hb he => hb (by rw [he]; rfl)
                            have HQ9 := Lib.hid (HQz.out.pages F9 FG HO9.out (.inl rfl))
                            have HC9 := Lib.hid ((HCz.out.move F9 trivial trivial).move hf (fun hh => by have := HGR.out; omega) (fun hh => by have := HGR.out; omega))
                            refine ⟨_, _, _, ?_, Lib.hid ?_, HQ9, HC9⟩
                            · have := HL6.out
                              rw [List.length_set, List.length_append, List.length_singleton]
                              omega
                            · have h9 := papply_ok HOKp.out HVX.out
                              rw [HQQ.out] at h9
                              have hset : (hv ++ [p]).set L q = hv ++ [q] := by rw [← HL.out, List.set_append_right _ _ (Nat.le_refl _), Nat.sub_self]; rfl
                              have hid : q.id = d.redo.page := by rw [h9.2, ← HPP.out]
                              have h10 := (HP.out.unwant d.redo.page).add (q := q) (fun y hy => by rw [hid]; exact HNO.out y hy) h9.1
                              rw [hid] at h10
                              rw [hset, HQQ.out, HZ.out]
                              exact h10
                        · have hkfb : (d.redo.kind == 1) = false := by rw [beq_eq_false_iff_ne]; exact hkf
                          have HKF := Lib.hid hkf
                          clear hkf y11 y12
                          have y7 : w4.cell? ⟨wr.heap.size, 7, none⟩ = some (.int .i64 d.redo.lsn) := ((blk_cells DB4).1 7).trans HV.out.2.2.2.2.2.2.2.1
                          have y8 : w4.cell? ⟨wr.heap.size, 8, none⟩ = some (.int .i64 d.redo.back) := ((blk_cells DB4).1 8).trans HV.out.2.2.2.2.2.2.2.2.1
                          have y9 : w4.cell? ⟨wr.heap.size, 9, none⟩ = some (.int .i64 d.redo.epoch) := ((blk_cells DB4).1 9).trans HV.out.2.2.2.2.2.2.2.2.2.1
                          have y10 : w4.cell? ⟨wr.heap.size, 10, none⟩ = some (.int .i64 d.redo.group) := ((blk_cells DB4).1 10).trans HV.out.2.2.2.2.2.2.2.2.2.2.1
                          have y11 : w4.cell? ⟨wr.heap.size, 11, none⟩ = some (.int .i64 d.redo.page) := ((blk_cells DB4).1 11).trans HV.out.2.2.2.2.2.2.2.2.2.2.2.1
                          have y12 : w4.cell? ⟨wr.heap.size, 12, none⟩ = some (.int .i64 d.redo.kind) := ((blk_cells DB4).1 12).trans HV.out.2.2.2.2.2.2.2.2.2.2.2.2.1
                          have y13 : w4.cell? ⟨wr.heap.size, 13, none⟩ = some (.int .i64 d.redo.slot) := ((blk_cells DB4).1 13).trans HV.out.2.2.2.2.2.2.2.2.2.2.2.2.2.1
                          have y14 : w4.cell? ⟨wr.heap.size, 14, none⟩ = some (.slice A0 n0 c0) := ((blk_cells DB4).1 14).trans HV.out.2.2.2.2.2.2.2.2.2.2.2.2.2.2.1
                          have y15 : w4.cell? ⟨wr.heap.size, 15, none⟩ = some (.slice A1 n1 c1) := ((blk_cells DB4).1 15).trans HV.out.2.2.2.2.2.2.2.2.2.2.2.2.2.2.2.1
                          have y16 : w4.cell? ⟨wr.heap.size, 16, none⟩ = some (.bool d.redo.last) := ((blk_cells DB4).1 16).trans HV.out.2.2.2.2.2.2.2.2.2.2.2.2.2.2.2.2
                          go_wp2_with fail
                          refine (apply_no (r := d.redo) HQ4.out.pk HI64.out HMM.out HKF.out).mono ?_
                          rintro e w5 ⟨rfl, _, f5⟩
                          clear y7 y8 y9 y10 y11 y12 y13 y14 y15 y16
                          go_wp2_with fail
                          go_meet
                          case rel => exact ⟨s, hv, ws, by have := HL6.out; omega, HP, Lib.hid (HQ4.out.all f5), Lib.hid (HC4.out.move f5 trivial trivial)⟩
                      · subst hr
                        have HIz := Lib.hid hi
                        have HID := Lib.hid hid
                        have HMP : Hid (s.have_ d.redo.page = some p) := Lib.hid (by rw [← hid]; exact HP.out.at_ hi)
                        have HOK := Lib.hid (HP.out.ok p (List.mem_of_getElem? hi))
                        have hiL : i < L := by rw [← HL.out]; exact (List.getElem?_eq_some_iff.1 hi).1
                        have i0 : (0 : Int) ≤ (i : Int) := by omega
                        have i1 : (i : Int) < (L : Int) := by omega
                        have hge : decide ((i : Int) ≥ 0) = true := decide_eq_true i0
                        have hlt0 : decide ((i : Int) < 0) = false := decide_eq_false (by omega)
                        clear hi hid HR y11 y12
                        have y7 : w4.cell? ⟨wr.heap.size, 7, none⟩ = some (.int .i64 d.redo.lsn) := ((blk_cells DB4).1 7).trans HV.out.2.2.2.2.2.2.2.1
                        have y8 : w4.cell? ⟨wr.heap.size, 8, none⟩ = some (.int .i64 d.redo.back) := ((blk_cells DB4).1 8).trans HV.out.2.2.2.2.2.2.2.2.1
                        have y9 : w4.cell? ⟨wr.heap.size, 9, none⟩ = some (.int .i64 d.redo.epoch) := ((blk_cells DB4).1 9).trans HV.out.2.2.2.2.2.2.2.2.2.1
                        have y10 : w4.cell? ⟨wr.heap.size, 10, none⟩ = some (.int .i64 d.redo.group) := ((blk_cells DB4).1 10).trans HV.out.2.2.2.2.2.2.2.2.2.2.1
                        have y11 : w4.cell? ⟨wr.heap.size, 11, none⟩ = some (.int .i64 d.redo.page) := ((blk_cells DB4).1 11).trans HV.out.2.2.2.2.2.2.2.2.2.2.2.1
                        have y12 : w4.cell? ⟨wr.heap.size, 12, none⟩ = some (.int .i64 d.redo.kind) := ((blk_cells DB4).1 12).trans HV.out.2.2.2.2.2.2.2.2.2.2.2.2.1
                        have y13 : w4.cell? ⟨wr.heap.size, 13, none⟩ = some (.int .i64 d.redo.slot) := ((blk_cells DB4).1 13).trans HV.out.2.2.2.2.2.2.2.2.2.2.2.2.2.1
                        have y14 : w4.cell? ⟨wr.heap.size, 14, none⟩ = some (.slice A0 n0 c0) := ((blk_cells DB4).1 14).trans HV.out.2.2.2.2.2.2.2.2.2.2.2.2.2.2.1
                        have y15 : w4.cell? ⟨wr.heap.size, 15, none⟩ = some (.slice A1 n1 c1) := ((blk_cells DB4).1 15).trans HV.out.2.2.2.2.2.2.2.2.2.2.2.2.2.2.2.1
                        have y16 : w4.cell? ⟨wr.heap.size, 16, none⟩ = some (.bool d.redo.last) := ((blk_cells DB4).1 16).trans HV.out.2.2.2.2.2.2.2.2.2.2.2.2.2.2.2.2
                        go_wp2_with fail
                        refine (apply_some (r := d.redo) HQ4.out.pk HI64.out HMP.out HOK.out.ents (S0.out.all F4) (S1.out.all F4) (by have := HVB.out; omega) (by have := HVB.out; omega) (by have := HVB.out; omega) (by have := HNN.out; omega)).mono ?_
                        rintro e wz ⟨rfl, hkz, fz⟩
                        have DBz := (fz.block _ (blk_lt DB4) HOD.out).trans DB4
                        have HCz := Lib.hid (HC4.out.move fz HOB.out HOL.out)
                        have S0z := Lib.hid ((S0.out.all F4).move' fz (fun b hb _ => HXO.out b hb))
                        have S1z := Lib.hid ((S1.out.all F4).move' fz (fun b hb _ => HXO.out b hb))
                        have HQz := Lib.hid (HQ4.out.pool fz hkz)
                        have HSM : Hid (SmallP p) := Lib.hid ⟨HOK.out.en, HOK.out.es⟩
                        obtain ⟨Lz, hLz⟩ : ∃ Lz, L = Lz := ⟨_, rfl⟩
                        obtain ⟨cz, hcz⟩ : ∃ cz, uc = cz := ⟨_, rfl⟩
                        obtain ⟨wvz, hwvz⟩ : ∃ wvz, Value.slice WA M wc = wvz := ⟨_, rfl⟩
                        rw [hLz, hcz, hwvz] at HQz
                        rw [hLz, hcz, hwvz]
                        rw [hLz] at i1
                        obtain ⟨g, A9, n9, c9, rfl, hg1, hg2, z0, z1, z2, z3, z4, hz, hs9⟩ := own_page_at HQz.out.hv HIz.out
                        have HGR : Hid (g ≠ B' ∧ g ≠ l') := Lib.hid (by have := HUB.out g rfl; have := HBB.out; have := h34; omega)
                        clear y7 y8 y9 y10 y11 y12 y13 y14 y15 y16 hkz fz DB4 HQ4 HC4 F4 hLz hcz hwvz
                        have y7 : wz.cell? ⟨wr.heap.size, 7, none⟩ = some (.int .i64 d.redo.lsn) := ((blk_cells DBz).1 7).trans HV.out.2.2.2.2.2.2.2.1
                        have y8 : wz.cell? ⟨wr.heap.size, 8, none⟩ = some (.int .i64 d.redo.back) := ((blk_cells DBz).1 8).trans HV.out.2.2.2.2.2.2.2.2.1
                        have y9 : wz.cell? ⟨wr.heap.size, 9, none⟩ = some (.int .i64 d.redo.epoch) := ((blk_cells DBz).1 9).trans HV.out.2.2.2.2.2.2.2.2.2.1
                        have y10 : wz.cell? ⟨wr.heap.size, 10, none⟩ = some (.int .i64 d.redo.group) := ((blk_cells DBz).1 10).trans HV.out.2.2.2.2.2.2.2.2.2.2.1
                        have y11 : wz.cell? ⟨wr.heap.size, 11, none⟩ = some (.int .i64 d.redo.page) := ((blk_cells DBz).1 11).trans HV.out.2.2.2.2.2.2.2.2.2.2.2.1
                        have y12 : wz.cell? ⟨wr.heap.size, 12, none⟩ = some (.int .i64 d.redo.kind) := ((blk_cells DBz).1 12).trans HV.out.2.2.2.2.2.2.2.2.2.2.2.2.1
                        have y13 : wz.cell? ⟨wr.heap.size, 13, none⟩ = some (.int .i64 d.redo.slot) := ((blk_cells DBz).1 13).trans HV.out.2.2.2.2.2.2.2.2.2.2.2.2.2.1
                        have y14 : wz.cell? ⟨wr.heap.size, 14, none⟩ = some (.slice A0 n0 c0) := ((blk_cells DBz).1 14).trans HV.out.2.2.2.2.2.2.2.2.2.2.2.2.2.2.1
                        have y15 : wz.cell? ⟨wr.heap.size, 15, none⟩ = some (.slice A1 n1 c1) := ((blk_cells DBz).1 15).trans HV.out.2.2.2.2.2.2.2.2.2.2.2.2.2.2.2.1
                        have y16 : wz.cell? ⟨wr.heap.size, 16, none⟩ = some (.bool d.redo.last) := ((blk_cells DBz).1 16).trans HV.out.2.2.2.2.2.2.2.2.2.2.2.2.2.2.2.2
                        have HS9 := Lib.hid hs9
                        clear hs9 hz hg1 hg2
                        go_upto_region 58 with fail
                        refine wp_region_last (S := fun w' => w'.cell? ⟨wr.heap.size, 7, none⟩ = some (.int .i64 d.redo.lsn) ∧ w'.cell? ⟨wr.heap.size, 8, none⟩ = some (.int .i64 d.redo.back) ∧ w'.cell? ⟨wr.heap.size, 9, none⟩ = some (.int .i64 d.redo.epoch) ∧ w'.cell? ⟨wr.heap.size, 10, none⟩ = some (.int .i64 d.redo.group) ∧ w'.cell? ⟨wr.heap.size, 11, none⟩ = some (.int .i64 d.redo.page) ∧ w'.cell? ⟨wr.heap.size, 12, none⟩ = some (.int .i64 d.redo.kind) ∧ w'.cell? ⟨wr.heap.size, 13, none⟩ = some (.int .i64 d.redo.slot) ∧ w'.cell? ⟨wr.heap.size, 14, none⟩ = some (.slice A0 n0 c0) ∧ w'.cell? ⟨wr.heap.size, 15, none⟩ = some (.slice A1 n1 c1) ∧ w'.cell? ⟨wr.heap.size, 16, none⟩ = some (.bool d.redo.last) ∧ w'.cell? ⟨g, i * 5, none⟩ = some (.int .i64 p.id) ∧ w'.cell? ⟨g, i * 5 + 1, none⟩ = some (.int .i64 p.lsn) ∧ w'.cell? ⟨g, i * 5 + 2, none⟩ = some (.int .i64 p.level) ∧ w'.cell? ⟨g, i * 5 + 3, none⟩ = some (.int .i64 p.next) ∧ w'.cell? ⟨g, i * 5 + 4, none⟩ = some (.slice A9 n9 c9)) 10 (by kernel_rfl) rfl (by kernel_rfl) ⟨y7, y8, y9, y10, y11, y12, y13, y14, y15, y16, z0, z1, z2, z3, z4⟩ (fun hHeld => ?_)
                        simp only [List.take_succ_cons, List.take_zero]
                        refine wpAnyH_take (i := 0) (v := ?_) rfl (by kernel_rfl) (by kernel_rfl) (by kernel_rfl) (fun _ _ _ h => h) (Or.inl ⟨by rfl, ?_⟩) (by assumption) ?_
                        rotate_left
                        · (intro w hSw; (try dsimp only at hSw); go_simp; try with_reducible rfl)
                        try simp only [List.getElem_toArray, List.getElem_cons_succ, List.getElem_cons_zero, Act.put, List.setIfInBounds_toArray, List.set_cons_succ, List.set_cons_zero]
                        refine wpAnyH_take (i := 1) (v := ?_) rfl (by kernel_rfl) (by kernel_rfl) (by kernel_rfl) (fun _ _ _ h => h) (Or.inl ⟨by rfl, ?_⟩) (by assumption) ?_
                        rotate_left
                        · (intro w hSw; (try dsimp only at hSw); go_simp; try with_reducible rfl)
                        try simp only [List.getElem_toArray, List.getElem_cons_succ, List.getElem_cons_zero, Act.put, List.setIfInBounds_toArray, List.set_cons_succ, List.set_cons_zero]
                        refine wpAnyH_take (i := 2) (v := ?_) rfl (by kernel_rfl) (by kernel_rfl) (by kernel_rfl) (fun _ _ _ h => h) (Or.inl ⟨by rfl, ?_⟩) (by assumption) ?_
                        rotate_left
                        · (intro w hSw; (try dsimp only at hSw); go_simp; try with_reducible rfl)
                        try simp only [List.getElem_toArray, List.getElem_cons_succ, List.getElem_cons_zero, Act.put, List.setIfInBounds_toArray, List.set_cons_succ, List.set_cons_zero]
                        refine wpAnyH_take (i := 3) (v := ?_) rfl (by kernel_rfl) (by kernel_rfl) (by kernel_rfl) (fun _ _ _ h => h) (Or.inl ⟨by rfl, ?_⟩) (by assumption) ?_
                        rotate_left
                        · (intro w hSw; (try dsimp only at hSw); go_simp; try with_reducible rfl)
                        try simp only [List.getElem_toArray, List.getElem_cons_succ, List.getElem_cons_zero, Act.put, List.setIfInBounds_toArray, List.set_cons_succ, List.set_cons_zero]
                        refine wpAnyH_take (i := 4) (v := ?_) rfl (by kernel_rfl) (by kernel_rfl) (by kernel_rfl) (fun _ _ _ h => h) (Or.inl ⟨by rfl, ?_⟩) (by assumption) ?_
                        rotate_left
                        · (intro w hSw; (try dsimp only at hSw); go_simp; try with_reducible rfl)
                        try simp only [List.getElem_toArray, List.getElem_cons_succ, List.getElem_cons_zero, Act.put, List.setIfInBounds_toArray, List.set_cons_succ, List.set_cons_zero]
                        refine wpAnyH_take (i := 5) (v := ?_) rfl (by kernel_rfl) (by kernel_rfl) (by kernel_rfl) (fun _ _ _ h => h) (Or.inl ⟨by rfl, ?_⟩) (by assumption) ?_
                        rotate_left
                        · (intro w hSw; (try dsimp only at hSw); go_simp; try with_reducible rfl)
                        try simp only [List.getElem_toArray, List.getElem_cons_succ, List.getElem_cons_zero, Act.put, List.setIfInBounds_toArray, List.set_cons_succ, List.set_cons_zero]
                        refine wpAnyH_take (i := 6) (v := ?_) rfl (by kernel_rfl) (by kernel_rfl) (by kernel_rfl) (fun _ _ _ h => h) (Or.inl ⟨by rfl, ?_⟩) (by assumption) ?_
                        rotate_left
                        · (intro w hSw; (try dsimp only at hSw); go_simp; try with_reducible rfl)
                        try simp only [List.getElem_toArray, List.getElem_cons_succ, List.getElem_cons_zero, Act.put, List.setIfInBounds_toArray, List.set_cons_succ, List.set_cons_zero]
                        refine wpAnyH_take (i := 7) (v := ?_) rfl (by kernel_rfl) (by kernel_rfl) (by kernel_rfl) (fun _ _ _ h => h) (Or.inl ⟨by rfl, ?_⟩) (by assumption) ?_
                        rotate_left
                        · (intro w hSw; (try dsimp only at hSw); go_simp; try with_reducible rfl)
                        try simp only [List.getElem_toArray, List.getElem_cons_succ, List.getElem_cons_zero, Act.put, List.setIfInBounds_toArray, List.set_cons_succ, List.set_cons_zero]
                        refine wpAnyH_ready (rs := [8]) (by kernel_rfl) (by simp) (AllReadyH.cons rfl (fun K hK => ?_) AllReadyH.nil)
                        go_simp
                        refine (ref_apply (p := p) (r := d.redo) (HS9.out.all (Fr.refl All wz).drew) HSM.out (S0z.out.all (Fr.refl All wz).drew) (S1z.out.all (Fr.refl All wz).drew) HVX.out).mono ?_
                        rintro e w9 ⟨RA, rc, rfl, hr9, f9⟩
                        go_simp
                        have F9 : Fr All wz w9 := (Fr.refl All wz).drew.trans f9
                        refine hK.out _ _ ⟨F9.cell trivial y7, F9.cell trivial y8, F9.cell trivial y9, F9.cell trivial y10, F9.cell trivial y11, F9.cell trivial y12, F9.cell trivial y13, F9.cell trivial y14, F9.cell trivial y15, F9.cell trivial y16, F9.cell trivial z0, F9.cell trivial z1, F9.cell trivial z2, F9.cell trivial z3, F9.cell trivial z4⟩ (fun hHeld => ?_)
                        clear hK K
                        try simp only [List.getElem_toArray, List.getElem_cons_succ, List.getElem_cons_zero, Act.put, List.setIfInBounds_toArray, List.set_cons_succ, List.set_cons_zero]
                        clear y7 y8 y9 y10 y11 y12 y13 y14 y15 y16 z0 z1 z2 z3 z4
                        refine wpAnyH_take (i := 9) (v := ?_) rfl (by kernel_rfl) (by kernel_rfl) (by kernel_rfl) (fun _ _ _ h => h) (Or.inl ⟨by rfl, ?_⟩) (by assumption) ?_
                        rotate_left
                        · (intro w hSw; (try dsimp only at hSw); go_simp; try with_reducible rfl)
                        try simp only [List.getElem_toArray, List.getElem_cons_succ, List.getElem_cons_zero, Act.put, List.setIfInBounds_toArray, List.set_cons_succ, List.set_cons_zero]
                        clear hHeld
                        obtain ⟨q, hq⟩ : ∃ q, papply p d.redo = q := ⟨_, rfl⟩
                        rw [hq] at hr9 ⊢
                        have HQQ := Lib.hid hq
                        have hne : ∀ b, From wz.heap.size b → b < w9.heap.size → (Off B l t b ∧ some b ≠ wvz.ownBlock) ∧ some b ≠ (Value.slice (some ⟨g, 0, none⟩) Lz cz).ownBlock := fun b (hb : wz.heap.size ≤ b) _ => by
                          have h1 := HQz.out.bB
                          have h2 := HQz.out.bl
                          have h3 := HQz.out.bt
                          have h4 := HQz.out.le
                          exact ⟨⟨⟨by omega, by omega, by omega⟩, fun hh => by have := (HQz.out.wb hh.symm).2.2; omega⟩, fun hh => by have := (HQz.out.ub hh.symm).2.2; omega⟩
                        obtain ⟨g', A8, n8, c8, hg', hg1, hg2, z0, z1, z2, z3, z4, hz, _⟩ := own_page_at (HQz.out.hv.all F9) HIz.out
                        obtain rfl : g = g' := (Addr.mk.inj (Option.some.inj hg')).1
                        obtain ⟨g', gc, hvv, hg3, hg4, hz9, ho⟩ := own_page_put (HQz.out.hv.all F9) (k := i) (List.getElem?_eq_some_iff.1 HIz.out).1 q (hr9.mono hne)
                        obtain rfl : g = g' := (Addr.mk.inj (Option.some.inj (Value.slice.inj hvv).1)).1
                        have HO9 := Lib.hid ho
                        clear hvv hg' ho hne hr9 hg1 hg2 hg3 hg4 hq
                        refine wpAnyH_done (by kernel_rfl) ?_ _
                        show wpList _ _ _ _ _ _
                        go_wp2_with fail
                        go_meet
                        case rel =>
                          have hf : Fr (fun b => b ≠ g) w9 (((((w9.setCell ⟨g, i * 5, none⟩ (.int .i64 q.id)).setCell ⟨g, i * 5 + 1, none⟩ (.int .i64 q.lsn)).setCell ⟨g, i * 5 + 2, none⟩ (.int .i64 q.level)).setCell ⟨g, i * 5 + 3, none⟩ (.int .i64 q.next)).setCell ⟨g, i * 5 + 4, none⟩ (.slice RA q.ents.length rc)) := by
                            repeat (first | (with_reducible exact Fr.refl _ _) | with_reducible refine Fr.setCell ?_ (fun m hm => by exact hm) _)
                          have FG : Fr (But (Value.slice (some ⟨g, 0, none⟩) Lz cz).ownBlock) w9 _ := hf.mono fun b hb he => hb (by rw [he]; rfl)
                          have HQ9 := Lib.hid (HQz.out.pages F9 FG HO9.out (.inl rfl))
                          have HC9 := Lib.hid ((HCz.out.move F9 trivial trivial).move hf (fun hh => by have := HGR.out; omega) (fun hh => by have := HGR.out; omega))
                          refine ⟨_, _, _, ?_, Lib.hid ?_, HQ9, HC9⟩
                          · have := HL6.out; rw [List.length_set]; omega
                          · have h9 := papply_ok HOK.out HVX.out
                            rw [HQQ.out] at h9
                            have h10 := HP.out.set HIz.out h9.2 h9.1
                            rw [HID.out] at h10
                            rw [HQQ.out]
                            exact h10
                  · have hkb3 : (d.kind == 3) = false := by rw [beq_eq_false_iff_ne]; exact hk3
                    clear hk1 hk2 hk3
                    as_aux_lemma =>
                      have y1 : w4.cell? ⟨wr.heap.size, 1, none⟩ = some (.int .i64 d.n) := ((blk_cells DB4).1 1).trans HV.out.2.1
                      clear F4
                      go_wp2_with fail
                      clear y0
                      obtain ⟨wo, hwo⟩ : ∃ wo, wo = wr := ⟨_, rfl⟩
                      subst hwo
                      go_loopw [17, 18, 19] (fun nx u18 kx wr => ∃ (m nn : Nat) (lf : List Page), m ≤ L ∧ nn ≤ m ∧ nx = .int .i64 nn ∧ kx = .int .i64 m ∧ Hid (lf = (hv.take m).filter fun p => decide (d.n < p.lsn)) ∧ Hid (nn + lf.length = m) ∧ Hid (Own kPage 30 w4.heap.size (fun x => (Off B l t x ∧ some x ≠ (Value.slice WA M wc).ownBlock) ∧ x < w4.heap.size) wr u18 lf) ∧ Hid (Fr All w4 wr)) (fun _ _ kx _ => L - (intOf kx).toNat)
                      case atStart => exact ⟨0, 0, [], Nat.zero_le _, Nat.le_refl _, rfl, rfl, Lib.hid rfl, Lib.hid rfl, Lib.hid (Own.nil_ _ _ _ _ _), Lib.hid (Fr.refl _ _)⟩
                      case round =>
                        obtain ⟨m, nn, lf, hm, hnn, rfl, rfl, HF, HN, HO, HFZ⟩ := hrel
                        have DBz := (HFZ.out.block _ (blk_lt DB4) trivial).trans DB4
                        clear y1
                        have y1 : wr.cell? ⟨wo.heap.size, 1, none⟩ = some (.int .i64 d.n) := ((blk_cells DBz).1 1).trans HV.out.2.1
                        by_cases hmt : m < L
                        · obtain ⟨x, hx, _⟩ := get_of (l := hv) (k := m) (by rw [HL.out]; exact hmt)
                          obtain ⟨g, A9, n9, c9, hUA, hg1, hg2, z0, z1, z2, z3, z4, hz, hs9⟩ := own_page_at (HQ4.out.hv.all HFZ.out) hx
                          have HX := Lib.hid hx
                          have hs9' : Sl kEnt (fun b => (Off B l t b ∧ some b ≠ (Value.slice WA M wc).ownBlock) ∧ b < w4.heap.size) wr (.slice A9 n9 c9) x.ents := by
                            obtain ⟨g4, A4, n4, c4, hU4, _, _, _, _, _, _, e4, _, hs4⟩ := own_page_at HQ4.out.hv hx
                            obtain rfl : g = g4 := (Addr.mk.inj (Option.some.inj (hUA.symm.trans hU4))).1
                            have h4 := HFZ.out.cell (p := ⟨g, m * 5 + 4, none⟩) trivial e4
                            obtain ⟨rfl, rfl, rfl⟩ := Value.slice.inj (Option.some.inj (h4.symm.trans z4))
                            refine (hs4.mono (T := fun b => (Off B l t b ∧ some b ≠ (Value.slice WA M wc).ownBlock) ∧ b < w4.heap.size) fun b hb hl => ⟨?_, hl⟩).all HFZ.out
                            rcases hb with hb | hb
                            · exact hb
                            · exact ⟨(HQ4.out.ub hb.symm).1, fun hh => HQ4.out.ne b hb.symm hh.symm⟩
                          have HS9 := Lib.hid hs9'
                          subst hUA
                          have m0 : (0 : Int) ≤ (m : Int) := by omega
                          have m1 : (m : Int) < (L : Int) := by omega
                          have hlf : lf.length ≤ 50 := by have := HN.out; have := HL6.out; have := HL.out; omega
                          have HLF := Lib.hid hlf
                          clear hs9 hs9' hx hg1 hg2 hz hlf
                          by_cases hle : x.lsn ≤ d.n
                          · have hd : decide (x.lsn ≤ d.n) = true := decide_eq_true hle
                            have HLE := Lib.hid hle
                            clear hle
                            go_upto_region 25 with fail
                            go_quiet (fail)
                            have FQ := (Fr.refl All wr).drewN nq
                            generalize hW8 : wr.drewN nq = W8 at *
                            clear hW8 y1 z0 z1 z2 z3 z4
                            go_wp2_with fail
                            go_roundw
                            case rel =>
                              refine ⟨m + 1, nn + 1, lf, by omega, by omega, by go_num, by go_num, Lib.hid ?_, Lib.hid (by have := HN.out; omega), Lib.hid (HO.out.all FQ), Lib.hid (HFZ.out.trans FQ)⟩
                              rw [take_snoc HX.out, List.filter_append, HF.out, List.filter_cons_of_neg (by rw [decide_eq_true_eq]; have := HLE.out; omega), List.filter_nil, List.append_nil]
                            case measure => simp [intOf]; omega
                          · have hd : decide (x.lsn ≤ d.n) = false := decide_eq_false hle
                            have HLE := Lib.hid (show d.n < x.lsn by omega)
                            clear hle
                            go_upto_region 25 with fail
                            go_quiet (fail)
                            have FQ := (Fr.refl All wr).drewN nq
                            have e0 := FQ.cell trivial z0
                            have e1 := FQ.cell trivial z1
                            have e2 := FQ.cell trivial z2
                            have e3 := FQ.cell trivial z3
                            have e4 := FQ.cell trivial z4
                            generalize hW8 : wr.drewN nq = W8 at *
                            obtain ⟨W9, hW9⟩ : ∃ W, W8.alloc (.cells #[.int .i64 x.id, .int .i64 x.lsn, .int .i64 x.level, .int .i64 x.next, .slice A9 n9 c9] 30) = W := ⟨_, rfl⟩
                            have FX := (Fr.refl All W8).alloc (.cells #[.int .i64 x.id, .int .i64 x.lsn, .int .i64 x.level, .int .i64 x.next, .slice A9 n9 c9] 30)
                            have HY := Src.box (d := kPage) (kPage_mk (x := x) (HS9.out.all FQ)) 30 1
                            change Src kPage _ (W8.alloc (.cells #[.int .i64 x.id, .int .i64 x.lsn, .int .i64 x.level, .int .i64 x.next, .slice A9 n9 c9] 30)) _ _ at HY
                            rw [hW9] at FX HY
                            have HO9 := (HO.out.all FQ).all FX
                            have hne : ∀ b, ((Off B l t b ∧ some b ≠ (Value.slice WA M wc).ownBlock) ∧ b < w4.heap.size) → b < W9.heap.size → ((Off B l t b ∧ some b ≠ (Value.slice WA M wc).ownBlock) ∧ b < w4.heap.size) ∧ some b ≠ u18.ownBlock := fun b hb _ => ⟨hb, fun hh => by have := (own_lt HO.out b hh.symm).1; have := hb.2; omega⟩
                            have HNE := Lib.hid hne
                            have hl9 : (lf.length + [x].length) * 56 ≤ 140737488355328 := by have := HLF.out; simp only [List.length_singleton]; omega
                            have HL9 := Lib.hid hl9
                            have HB9 : Hid (w4.heap.size ≤ W9.heap.size) := Lib.hid ((HFZ.out.trans FQ).trans FX).size
                            have hown : ∀ k, u18.ownBlock = some k → w4.heap.size ≤ k := fun k hk => (own_lt HO.out k hk).1
                            have HOW := Lib.hid hown
                            clear hne hl9 hown hW8 y1 z0 z1 z2 z3 z4
                            go_wp2_with (at_builtin; refine wpList_app rfl rfl Tryd.underlying26 info_page rfl (by decide) HO9 HY rfl rfl HNE.out HL9.out HB9.out ?_; intro v3 w30 h3 g3 k3; clear hW9 HO9 HY e0 e1 e2 e3 e4)
                            go_roundw
                            case rel =>
                              refine ⟨m + 1, nn, lf ++ [x], by omega, by omega, rfl, by go_num, Lib.hid ?_, Lib.hid (by rw [List.length_append, List.length_singleton]; have := HN.out; omega), Lib.hid h3, Lib.hid (((HFZ.out.trans FQ).trans FX).row g3.grown HOW.out)⟩
                              rw [take_snoc HX.out, List.filter_append, HF.out, List.filter_cons_of_pos (by rw [decide_eq_true_eq]; exact HLE.out), List.filter_nil]
                            case measure => simp [intOf]; omega
                        · have hmf : decide ((m : Int) < (L : Int)) = false := decide_eq_false (by omega)
                          have HmL := Lib.hid (show m = L by omega)
                          have HQ5 := Lib.hid (HQ4.out.pages HFZ.out (Fr.refl _ wr) ((HO.out.lower HQ4.out.le).mono fun b hb _ => hb.1) (.inr fun x hx => (own_lt HO.out x hx).1))
                          have HC5 := Lib.hid (HC4.out.move HFZ.out trivial trivial)
                          clear hm
                          go_wp2_with fail
                          refine (pool_drop HQ5.out.pk d.n (by have := HNN.out; omega)).mono ?_
                          rintro e w9 ⟨nd, rfl, hk9, f9⟩
                          have HPL := Lib.hid (HP.out.drop hk9.hv)
                          have hlf : lf = hv.filter fun p => decide (d.n < p.lsn) := by rw [HF.out, HmL.out, ← HL.out, List.take_length]
                          have HLf := Lib.hid hlf
                          have heq : ((s.nh : Int) - (nd : Int) != (nn : Int)) = false := by
                            have h1 : nd = lf.length := by rw [hlf]; exact HPL.out.nh
                            have h2 := HP.out.nh
                            have h3 := HN.out
                            have h4 := HmL.out
                            have h5 := HL.out
                            rw [bne_eq_false_iff_eq]
                            omega
                          have HQ9 := Lib.hid (HQ5.out.pool f9 hk9)
                          have HC9 := Lib.hid (HC5.out.move f9 HOB.out HOL.out)
                          have hln : lf.length ≤ j + 1 := by have := HN.out; have := HmL.out; have := HL6.out; have := HL.out; omega
                          clear hlf hk9 f9 y1
                          go_wp2_with fail
                          go_meet
                          case rel => exact ⟨s.dropped d.n nd, lf, ws, hln, Lib.hid (by rw [HLf.out]; exact HPL.out), HQ9, HC9⟩
            case rest =>
              obtain ⟨sz, hz, wsz, hlz, PZ, QZ0, CZ⟩ := hcut
              obtain ⟨UZ, uz, hu⟩ := QZ0.out.hv.length
              obtain ⟨WZ, mz, hw⟩ := QZ0.out.ws.length
              subst hu
              subst hw
              obtain ⟨LZ, hLZ⟩ : ∃ L, hz.length = L := ⟨_, rfl⟩
              obtain ⟨MZ, hMZ⟩ : ∃ M, wsz.length = M := ⟨_, rfl⟩
              have QZ := QZ0
              rw [hLZ, hMZ] at QZ
              rw [hLZ, hMZ]
              clear hLZ hMZ QZ0
              as_aux_lemma =>
                have hl1 : hz.length = LZ := QZ.out.hv.sl.len
                have hl2 : wsz.length = MZ := QZ.out.ws.sl.len
                have hnh := PZ.out.nh
                have hcmp : ((sz.nh : Int) != (LZ : Int)) = false := by rw [hnh, hl1]; simp
                have hnw6 : sz.nw ≤ 1000000 := by have := PZ.out.nw_le; omega
                clear hnh
                go_wp2_with fail
                refine (pool_len QZ.out.pk).mono ?_
                rintro e wn ⟨rfl, hwn⟩
                obtain rfl := hwn.symm
                clear hwn
                go_wp2_with fail
                refine (pool_wants QZ.out.pk hnw6).mono ?_
                rintro e wy ⟨WA2, wc2, ks, rfl, hk1, hk2, hk3, sk, fy⟩
                have hks : ks = wsz := rise_ext hk2 PZ.out.rise (fun k => by
                  rw [hk3, PZ.out.wants]
                  exact ⟨fun h => h.2, fun h => ⟨in64_of (by have := PZ.out.wb k ((PZ.out.wants k).2 h); omega) (by have := PZ.out.wb k ((PZ.out.wants k).2 h); omega), h⟩⟩)
                have Hks := Lib.hid hks
                clear hks hk1 hk2 hk3
                go_wp2_with fail
                refine (same_ints sk (QZ.out.ws.all fy).sl (by rw [Hks.out, hl2]; have := PZ.out.nw_le; have := PZ.out.nw; omega)).mono ?_
                rintro e wx ⟨rfl, fx⟩
                rw [show decide (ks = wsz) = true by rw [Hks.out]; simp]
                have hcc : ((n' : Int) != (n' : Int)) = false := by simp
                go_wp2_with fail
                refine (clen_call (CZ.out.move (fy.trans fx) trivial trivial)).mono ?_
                rintro e wn ⟨rfl, hwn⟩
                obtain rfl := hwn.symm
                clear hwn
                go_wp2_with fail
                go_roundw
                case rel => exact ⟨j + 1, sz, hz, wsz, by go_num, by omega, by omega, PZ, Lib.hid (QZ.out.all (fy.trans fx))⟩
                case measure => simp [intOf]; omega
      · obtain rfl : j = n := by omega
        go_wp2_with fail
        go_ret
        exact ⟨rfl, HQ.out.fr⟩
end Go.Proofs.YtppjpfgjophgkaaDoor
