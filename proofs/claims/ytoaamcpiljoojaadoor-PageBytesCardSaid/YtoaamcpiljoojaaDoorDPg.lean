/- The document's reader's page. (Printed in part by gen_page.py.) -/
import Derived.Test.YtoaamcpiljoojaaDoorDByt
import Derived.Test.YtoaamcpiljoojaaDoorPgL
import Derived.Test.YtoaamcpiljoojaaDoorPClone
namespace Go.Proofs.YtoaamcpiljoojaaDoor
open Go.RowKit

theorem stNum_in {lo hi v : Int} {bs : List UInt8} {s s' : Nat × Option (Nat × Nat)} (h : stNum lo hi bs s = (v, s')) (h0 : lo ≤ 0) (h1 : 0 ≤ hi) : lo ≤ v ∧ v ≤ hi := by
  obtain ⟨p, er⟩ := s
  have hv : v = (stNum lo hi bs (p, er)).1 := by rw [h]
  rw [hv]
  unfold stNum
  cases er with
  | some x => exact ⟨h0, h1⟩
  | none =>
    dsimp only
    cases numGo (bs.drop p) 0 0 with
    | error x => exact ⟨h0, h1⟩
    | ok x =>
      dsimp only
      split
      · exact ⟨h0, h1⟩
      · dsimp only
        omega
/-- The first cell of a row of entries is a slice. -/
theorem row_head {e : TypeId} {base : Nat} {S : Nat → Prop} {w : World} {v : Value} {xs : List Ent} (h : Own kEnt e base S w v xs) (hx : xs ≠ []) {k : Nat} (hk : v.ownBlock = some k) : ∃ A n c, w.cell? ⟨k, 0, none⟩ = some (.slice A n c) := by
  obtain ⟨cs, ho, hr⟩ := h
  rcases ho.2 with ⟨_, h0⟩ | ⟨g, cap, cur, rfl, hb, hg, hn, hcm, hcs, ht⟩
  · exact absurd (List.eq_nil_of_length_eq_zero h0) hx
  · obtain rfl : g = k := Option.some.inj hk
    cases xs with
    | nil => exact absurd rfl hx
    | cons x xs =>
      obtain ⟨el, hk, hc⟩ := hr.get (i := 0) (x := x) rfl
      obtain ⟨v0, v1, rfl, k0, _⟩ := kEnt_open hk
      obtain ⟨A, n, c, rfl, _, _⟩ := k0.open_
      have h1 := ho.cells (g := g) rfl _ _ (hc 0 _ rfl)
      exact ⟨A, n, c, h1⟩
section
variable {w0 : World} {R n c pos p0 : Nat} {bs : List UInt8} {A : Option Addr} {w w1 w2 : World} {er e0 : Option (Nat × Nat)}
/-- A walk that writes to no block that was there, but the reader's. -/
theorem Dr.past {S : Nat → Prop} (h0 : Dr w0 R bs A n c w p0 e0) (h : Dr w0 R bs A n c w1 pos er) (f : Fr (fun b => b ≠ R) w w1) (g : Fr S w1 w2) (hS : ∀ b, b < w.heap.size → S b) : Dr w0 R bs A n c w2 pos er ∧ Fr (fun b => b ≠ R) w w2 := by
  have hR := hS R h0.lt
  have f2 : Fr (fun b => b ≠ R) w w2 := ⟨g.os.trans f.os, g.tape.trans f.tape, g.output.trans f.output, Nat.le_trans f.size g.size, fun m hm hs => (g.block m (Nat.lt_of_lt_of_le hm f.size) (hS m hm)).trans (f.block m hm hs)⟩
  have F : Fr All w0 w2 := ⟨g.os.trans h.fr.os, g.tape.trans h.fr.tape, g.output.trans h.fr.output, Nat.le_trans h.fr.size g.size, fun m hm hs => (g.block m (Nat.lt_of_lt_of_le hm h.fr.size) (hS m (Nat.lt_of_lt_of_le hm h0.fr.size))).trans (h.fr.block m hm hs)⟩
  exact ⟨⟨F, h.new, Nat.lt_of_lt_of_le h.lt g.size, g.cell (p := ⟨R, 0, none⟩) hR h.k0, g.cell (p := ⟨R, 1, none⟩) hR h.k1, g.cell (p := ⟨R, 2, none⟩) hR h.k2, g.cell (p := ⟨R, 3, none⟩) hR h.k3, g.cell (p := ⟨R, 4, none⟩) hR h.k4, fun j => (World.frozen?_of_block (a := ⟨R, j, none⟩) (g.block R h.lt hR)).trans (h.kz j), h0.sl.move f2, h.small, h.pos_le⟩, f2⟩

set_option hygiene false in
set_option maxRecDepth 100000 in
set_option maxHeartbeats 4000000 in
theorem dr_page (h : Dr w0 R bs A n c w pos er) :
    Calls Tryd.prog 62 #[.pointer (some ⟨R, 0, none⟩)] w fun e w' => ∃ x : Page, ∃ A' n' c' p er', e = .returned (.agg #[.int .i64 x.id, .int .i64 x.lsn, .int .i64 x.level, .int .i64 x.next, .slice A' n' c']) ∧ Sl kEnt (fun b => w.heap.size ≤ b) w' (.slice A' n' c') x.ents ∧ Hid (stPage bs (pos, er) = (x, p, er')) ∧ Hid (Dr w0 R bs A n c w' p er') ∧ Fr (fun b => b ≠ R) w w' := by
  have F0 := ((Fr.refl All w).alloc (.cells #[.int .i64 0, .int .i64 0, .int .i64 0, .int .i64 0, .slice none 0 0] 39)).alloc (.cells #[.int .i64 0, .int .i64 0, .int .i64 0, .int .i64 0, .slice none 0 0] 39)
  have BT := heap_alloc2_new w (.cells #[.int .i64 0, .int .i64 0, .int .i64 0, .int .i64 0, .slice none 0 0] 39) (.cells #[.int .i64 0, .int .i64 0, .int .i64 0, .int .i64 0, .slice none 0 0] 39)
  have BR := heap_alloc2_old w (.cells #[.int .i64 0, .int .i64 0, .int .i64 0, .int .i64 0, .slice none 0 0] 39) (.cells #[.int .i64 0, .int .i64 0, .int .i64 0, .int .i64 0, .slice none 0 0] 39)
  obtain ⟨W, hW⟩ : ∃ W, (w.alloc (.cells #[.int .i64 0, .int .i64 0, .int .i64 0, .int .i64 0, .slice none 0 0] 39)).alloc (.cells #[.int .i64 0, .int .i64 0, .int .i64 0, .int .i64 0, .slice none 0 0] 39) = W := ⟨_, rfl⟩
  rw [hW] at F0 BT BR
  have hRs := h.lt
  have hR0 : w.heap.size ≠ R := by omega
  have hR1 : w.heap.size + 1 ≠ R := by omega
  have H := Lib.hid h
  have H0 := Lib.hid (h.move F0)
  have FB : Fr (fun b => b ≠ R) w W := F0.mono fun _ _ => trivial
  clear h F0
  go_enter Tryd.func62, Tryd.ntmps62
  go_wp2_with fail
  refine (dr_num' H0.out 0 255).mono ?_
  rintro e w1 ⟨a1, p1, e1, rfl, S1, H1, f1⟩
  have T1 := (f1.block (w.heap.size + 1) (blk_lt BT) hR1).trans BT
  have U1 := (f1.block w.heap.size (blk_lt BR) hR0).trans BR
  have G1 : Fr (fun b => b ≠ R) w w1 := FB.trans f1
  clear f1 FB BT BR hW
  obtain ⟨t0, t1, t2, t3, t4, tz⟩ := blk5 T1
  go_upto_region 3 with (fail)
  refine wp_name ?_
  intro V1 hV
  have TB1 : V1.heap[w.heap.size + 1]? = some (.cells #[.int .i64 a1, .int .i64 0, .int .i64 0, .int .i64 0, .slice none 0 0] 39 (0, 0)) := by rw [hV]; exact heap_setCell_same _ _ 0 _ _ _ T1
  have D1 : Fr (fun b => b ≠ w.heap.size + 1) w1 V1 := by rw [hV]; exact ((Fr.refl _ _).setCell (fun m hm => by exact hm) _)
  have UB1 := (D1.block w.heap.size (blk_lt U1) (by omega)).trans U1
  obtain ⟨hb1, GB1⟩ := H.out.past H1.out G1 D1 (fun b hb => by omega)
  have HB1 := Lib.hid hb1
  clear hb1 hV D1 G1 T1 U1 t0 t1 t2 t3 t4 tz
  go_wp2_with fail
  refine (dr_num' HB1.out 0 1099511627776).mono ?_
  rintro e w2 ⟨a2, p2, e2, rfl, S2, H2, f2⟩
  have T2 := (f2.block (w.heap.size + 1) (blk_lt TB1) hR1).trans TB1
  have U2 := (f2.block w.heap.size (blk_lt UB1) hR0).trans UB1
  have G2 : Fr (fun b => b ≠ R) w w2 := GB1.trans f2
  clear f2 GB1 TB1 UB1
  obtain ⟨t0, t1, t2, t3, t4, tz⟩ := blk5 T2
  go_upto_region 4 with (fail)
  refine wp_name ?_
  intro V2 hV
  have TB2 : V2.heap[w.heap.size + 1]? = some (.cells #[.int .i64 a1, .int .i64 a2, .int .i64 0, .int .i64 0, .slice none 0 0] 39 (0, 0)) := by rw [hV]; exact heap_setCell_same _ _ 1 _ _ _ T2
  have D2 : Fr (fun b => b ≠ w.heap.size + 1) w2 V2 := by rw [hV]; exact ((Fr.refl _ _).setCell (fun m hm => by exact hm) _)
  have UB2 := (D2.block w.heap.size (blk_lt U2) (by omega)).trans U2
  obtain ⟨hb2, GB2⟩ := H.out.past H2.out G2 D2 (fun b hb => by omega)
  have HB2 := Lib.hid hb2
  clear hb2 hV D2 G2 T2 U2 t0 t1 t2 t3 t4 tz
  go_wp2_with fail
  refine (dr_num' HB2.out 0 16).mono ?_
  rintro e w3 ⟨a3, p3, e3, rfl, S3, H3, f3⟩
  have T3 := (f3.block (w.heap.size + 1) (blk_lt TB2) hR1).trans TB2
  have U3 := (f3.block w.heap.size (blk_lt UB2) hR0).trans UB2
  have G3 : Fr (fun b => b ≠ R) w w3 := GB2.trans f3
  clear f3 GB2 TB2 UB2
  obtain ⟨t0, t1, t2, t3, t4, tz⟩ := blk5 T3
  go_upto_region 5 with (fail)
  refine wp_name ?_
  intro V3 hV
  have TB3 : V3.heap[w.heap.size + 1]? = some (.cells #[.int .i64 a1, .int .i64 a2, .int .i64 a3, .int .i64 0, .slice none 0 0] 39 (0, 0)) := by rw [hV]; exact heap_setCell_same _ _ 2 _ _ _ T3
  have D3 : Fr (fun b => b ≠ w.heap.size + 1) w3 V3 := by rw [hV]; exact ((Fr.refl _ _).setCell (fun m hm => by exact hm) _)
  have UB3 := (D3.block w.heap.size (blk_lt U3) (by omega)).trans U3
  obtain ⟨hb3, GB3⟩ := H.out.past H3.out G3 D3 (fun b hb => by omega)
  have HB3 := Lib.hid hb3
  clear hb3 hV D3 G3 T3 U3 t0 t1 t2 t3 t4 tz
  go_wp2_with fail
  refine (dr_num' HB3.out (-1) 255).mono ?_
  rintro e w4 ⟨a4, p4, e4, rfl, S4, H4, f4⟩
  have T4 := (f4.block (w.heap.size + 1) (blk_lt TB3) hR1).trans TB3
  have U4 := (f4.block w.heap.size (blk_lt UB3) hR0).trans UB3
  have G4 : Fr (fun b => b ≠ R) w w4 := GB3.trans f4
  clear f4 GB3 TB3 UB3
  obtain ⟨t0, t1, t2, t3, t4, tz⟩ := blk5 T4
  go_upto_region 6 with (fail)
  refine wp_name ?_
  intro V4 hV
  have TB4 : V4.heap[w.heap.size + 1]? = some (.cells #[.int .i64 a1, .int .i64 a2, .int .i64 a3, .int .i64 a4, .slice none 0 0] 39 (0, 0)) := by rw [hV]; exact heap_setCell_same _ _ 3 _ _ _ T4
  have D4 : Fr (fun b => b ≠ w.heap.size + 1) w4 V4 := by rw [hV]; exact ((Fr.refl _ _).setCell (fun m hm => by exact hm) _)
  have UB4 := (D4.block w.heap.size (blk_lt U4) (by omega)).trans U4
  obtain ⟨hb4, GB4⟩ := H.out.past H4.out G4 D4 (fun b hb => by omega)
  have HB4 := Lib.hid hb4
  clear hb4 hV D4 G4 T4 U4 t0 t1 t2 t3 t4 tz
  go_wp2_with fail
  refine (dr_num' HB4.out 0 8).mono ?_
  rintro e w5 ⟨a5, p5, e5, rfl, S5, H5, f5⟩
  have T5 := (f5.block (w.heap.size + 1) (blk_lt TB4) hR1).trans TB4
  have U5 := (f5.block w.heap.size (blk_lt UB4) hR0).trans UB4
  have G5 : Fr (fun b => b ≠ R) w w5 := GB4.trans f5
  clear f5 GB4 TB4 UB4
  obtain ⟨hv0, hv8⟩ := stNum_in S5.out (by decide) (by decide)
  obtain ⟨N, rfl⟩ := Int.eq_ofNat_of_zero_le hv0
  clear hv0
  go_wp2_with fail
  go_loopw [5] (fun i wr => ∃ (j : Nat) (pre : List Ent) (u : Value) (pj : Nat) (ej : Option (Nat × Nat)), i = .int .i64 j ∧ j ≤ N ∧ pre.length = j ∧ Hid (stEnts bs N (p5, e5) = (pre ++ (stEnts bs (N - j) (pj, ej)).1, (stEnts bs (N - j) (pj, ej)).2)) ∧ Hid (Dr w0 R bs A n c wr pj ej) ∧ Own kEnt 89 (w.heap.size + 2) (From (w.heap.size + 2)) wr u pre ∧ Hid (pre = [] → u = .slice none 0 0) ∧ wr.heap[w.heap.size + 1]? = some (.cells #[.int .i64 a1, .int .i64 a2, .int .i64 a3, .int .i64 a4, u] 39 (0, 0)) ∧ wr.heap[w.heap.size]? = some (.cells #[.int .i64 0, .int .i64 0, .int .i64 0, .int .i64 0, .slice none 0 0] 39 (0, 0)) ∧ Fr (fun b => b ≠ R) w wr) (fun i _ => N - (intOf i).toNat)
  case atStart => exact ⟨0, [], .slice none 0 0, p5, e5, rfl, Nat.zero_le _, rfl, (rfl : stEnts bs N (p5, e5) = ([] ++ (stEnts bs (N - 0) (p5, e5)).1, (stEnts bs (N - 0) (p5, e5)).2)), H5, Own.nil_ _ _ _ _ _, (fun _ => rfl : ([] : List Ent) = [] → Value.slice none 0 0 = .slice none 0 0), T5, U5, G5⟩
  case round =>
    obtain ⟨j, pre, u, pj, ej, rfl, hj, hpl, HE, HD, HO, HZ, TB, UB, FR⟩ := hrel
    obtain ⟨UA, uc, rfl⟩ := HO.length
    rw [hpl] at HO TB HZ
    by_cases hlt : j < N
    · have hlz : decide ((j : Int) < (N : Int)) = true := decide_eq_true (by omega)
      cases ej with
      | some y =>
        have he := HE.out
        rw [stEnts_bad bs (N - j) (s := (pj, some y)) (by simp), List.append_nil] at he
        have HEE := Lib.hid he
        clear he
        obtain ⟨t0, t1, t2, t3, t4, tz⟩ := blk5 TB
        obtain ⟨r0, r1, r2, r3, r4, rz⟩ := blk5 UB
        go_wp2_with fail
        refine (dr_ok HD.out).mono ?_
        rintro e wn ⟨rfl, hwn⟩
        obtain rfl := hwn.symm
        clear hwn
        go_wp2_with fail
        refine bodyPost_ret (v := .agg #[.int .i64 a1, .int .i64 a2, .int .i64 a3, .int .i64 a4, .slice UA j uc]) ?_ rfl ?_
        · simp [results, Tryd.results62, go_sem, r0, r1, r2, r3, r4]
        generalize hg : (((((wr.setCell ⟨w.heap.size, 0, none⟩ (.int .i64 a1)).setCell ⟨w.heap.size, 1, none⟩ (.int .i64 a2)).setCell ⟨w.heap.size, 2, none⟩ (.int .i64 a3)).setCell ⟨w.heap.size, 3, none⟩ (.int .i64 a4)).setCell ⟨w.heap.size, 4, none⟩ (.slice UA j uc)) = U
        have hU : Fr (fun b => b ≠ w.heap.size) wr U := by
          rw [← hg]
          repeat (first | (with_reducible exact Fr.refl _ _) | with_reducible refine Fr.setCell ?_ (fun m hm => by exact hm) _)
        have RU := H.out.past HD.out FR hU (fun b hb => by omega)
        have OU := HO.move hU (fun b hb _ => by unfold From at hb; omega) (fun k hk => by have := own_lt HO k hk; omega)
        exact ⟨⟨a1, a2, a3, a4, pre⟩, UA, j, uc, pj, _, rfl, OU.sl_in (fun b hb _ => by unfold From at hb; omega) (fun b hb _ => by omega), Lib.hid (stPage_of S1.out S2.out S3.out S4.out S5.out (by rw [Int.toNat_natCast]; exact HEE.out)), Lib.hid RU.1, RU.2⟩
      | none =>
        go_wp2_with fail
        refine (dr_ok HD.out).mono ?_
        rintro e wn ⟨rfl, hwn⟩
        obtain rfl := hwn.symm
        clear hwn
        go_wp2_with fail
        refine (dr_bytes HD.out 32).mono ?_
        rintro e w6 ⟨A6, m6, c6, z6, p6, e6, rfl, S6, s6, H6, f6⟩
        go_wp2_with fail
        refine (dr_bytes H6.out 64).mono ?_
        rintro e w7 ⟨A7, m7, c7, z7, p7, e7, rfl, S7, s7, H7, f7⟩
        have F67 := f6.trans f7
        have T7 := (F67.block _ (blk_lt TB) hR1).trans TB
        have U7 := (F67.block _ (blk_lt UB) hR0).trans UB
        have G7 : Fr (fun b => b ≠ R) w w7 := FR.trans F67
        have HO7 : Own kEnt 89 (w.heap.size + 2) (From (w.heap.size + 2)) w7 (.slice UA j uc) pre := HO.move F67 (fun b hb _ => by unfold From at hb; omega) (fun k hk => by have := own_lt HO k hk; omega)
        have hown := fun k hk => own_lt HO k hk
        have hTs := blk_lt TB
        have h67 := F67.size
        have h6s := f6.size
        have s6' : Sl kByte (fun b => From (w.heap.size + 2) b ∧ some b ≠ (Value.slice UA j uc).ownBlock) w7 (.slice A6 m6 c6) z6 := (s6.move' f7 fun b hb _ => by have := HD.out.lt; omega).mono fun b hb _ => ⟨by unfold From; omega, fun hh => by have := hown b hh.symm; omega⟩
        have s7' : Sl kByte (fun b => From (w.heap.size + 2) b ∧ some b ≠ (Value.slice UA j uc).ownBlock) w7 (.slice A7 m7 c7) z7 := s7.mono fun b hb _ => ⟨by unfold From; omega, fun hh => by have := hown b hh.symm; omega⟩
        obtain ⟨t0, t1, t2, t3, t4, tz⟩ := blk5 T7
        have F9 := (Fr.refl All w7).alloc (.cells #[.slice A6 m6 c6, .slice A7 m7 c7] 89)
        have he := HE.out
        rw [show N - j = (N - (j + 1)) + 1 by omega, stEnts_good _ _ rfl, S6.out] at he
        dsimp only at he
        rw [S7.out] at he
        dsimp only at he
        have HE2 := Lib.hid he
        clear he F67 s6 s7
        go_upto_region 12 with (fail)
        go_wp2_with (at_builtin; refine wpList_app rfl rfl Tryd.underlying37 info_ent rfl (by decide) (HO7.all F9) (Src.box (kEnt_mk (x := ⟨z6, z7⟩) s6' s7') _ 1) rfl rfl (fun b hb _ => hb) (by simp only [List.length_cons, List.length_nil]; omega) (by have := F9.size; omega) ?_; intro u8 w8 h8 g8 k8; obtain ⟨UA8, uc8, hu8⟩ := h8.length; rw [List.length_append, List.length_singleton, hpl] at hu8; subst hu8; have hbt : But (Value.slice UA j uc).ownBlock (w.heap.size + 1) := (fun hh => by have := hown _ hh.symm; omega); have T8 := (g8.block _ (Nat.lt_of_lt_of_le (blk_lt T7) F9.size) hbt).trans ((F9.block _ (blk_lt T7) trivial).trans T7); obtain ⟨q0, q1, q2, q3, q4, qz⟩ := blk5 T8)
        have U8 := (g8.block _ (Nat.lt_of_lt_of_le (blk_lt U7) F9.size) (fun hh => by have := hown _ hh.symm; omega)).trans ((F9.block _ (blk_lt U7) trivial).trans U7)
        have D8 : Fr (fun b => b ≠ w.heap.size + 1) w8 (w8.setCell ⟨w.heap.size + 1, 4, none⟩ (.slice UA8 (j + 1) uc8)) := (Fr.refl _ _).setCell (fun m hm => by exact hm) _
        have G8 : Fr (fun b => b ≠ R) w w8 := (G7.trans (F9.mono fun _ _ => trivial)).row g8.grown (fun k hk => by have := hown k hk; omega)
        have gAll : Fr (fun b => b ≠ w.heap.size + 1 ∧ some b ≠ (Value.slice UA j uc).ownBlock) w7 (w8.setCell ⟨w.heap.size + 1, 4, none⟩ (.slice UA8 (j + 1) uc8)) := ((F9.mono fun _ _ => trivial).trans (g8.mono fun b hb => hb.2)).trans (D8.mono fun b hb => hb.1)
        have hS : ∀ b, b < w.heap.size → b ≠ w.heap.size + 1 ∧ some b ≠ (Value.slice UA j uc).ownBlock := fun b hb => ⟨by omega, fun hh => by have := hown b hh.symm; omega⟩
        have R9 := H.out.past H7.out G7 gAll hS
        have T9 := heap_setCell_same _ _ 4 _ _ (Value.slice UA8 (j + 1) uc8) T8
        have U9 := (D8.block w.heap.size (blk_lt U8) (by omega)).trans U8
        have O9 := h8.move D8 (fun b hb _ => by unfold From at hb; omega) (fun k hk => by have := own_lt h8 k hk; omega)
        go_roundw
        case rel => exact ⟨j + 1, pre ++ [⟨z6, z7⟩], .slice UA8 (j + 1) uc8, p7, e7, by go_num, by omega, by simp [hpl], Lib.hid (by rw [HE2.out, List.append_assoc]; rfl), Lib.hid R9.1, O9, Lib.hid (fun hh => by simp at hh), T9, U9, R9.2⟩
        case measure => simp [intOf]; omega
    · have hlz : decide ((j : Int) < (N : Int)) = false := decide_eq_false (by omega)
      have he := HE.out
      rw [show N - j = 0 by omega] at he
      have he : stEnts bs N (p5, e5) = (pre, pj, ej) := by rw [he]; simp [stEnts]
      have HEE := Lib.hid he
      clear he
      obtain ⟨t0, t1, t2, t3, t4, tz⟩ := blk5 TB
      obtain ⟨r0, r1, r2, r3, r4, rz⟩ := blk5 UB
      go_wp2_with fail
      refine bodyPost_ret (v := .agg #[.int .i64 a1, .int .i64 a2, .int .i64 a3, .int .i64 a4, .slice UA j uc]) ?_ rfl ?_
      · simp [results, Tryd.results62, go_sem, r0, r1, r2, r3, r4]
      generalize hg : (((((wr.setCell ⟨w.heap.size, 0, none⟩ (.int .i64 a1)).setCell ⟨w.heap.size, 1, none⟩ (.int .i64 a2)).setCell ⟨w.heap.size, 2, none⟩ (.int .i64 a3)).setCell ⟨w.heap.size, 3, none⟩ (.int .i64 a4)).setCell ⟨w.heap.size, 4, none⟩ (.slice UA j uc)) = U
      have hU : Fr (fun b => b ≠ w.heap.size) wr U := by
        rw [← hg]
        repeat (first | (with_reducible exact Fr.refl _ _) | with_reducible refine Fr.setCell ?_ (fun m hm => by exact hm) _)
      have RU := H.out.past HD.out FR hU (fun b hb => by omega)
      have OU := HO.move hU (fun b hb _ => by unfold From at hb; omega) (fun k hk => by have := own_lt HO k hk; omega)
      exact ⟨⟨a1, a2, a3, a4, pre⟩, UA, j, uc, pj, _, rfl, OU.sl_in (fun b hb _ => by unfold From at hb; omega) (fun b hb _ => by omega), Lib.hid (stPage_of S1.out S2.out S3.out S4.out S5.out (by rw [Int.toNat_natCast]; exact HEE.out)), Lib.hid RU.1, RU.2⟩
end
end Go.Proofs.YtoaamcpiljoojaaDoor
