/- The walk of the law on a disk that is told anything. -/
import Derived.Test.YteikddopeplomaaDoorPlF
import Derived.Test.YteikddopeplomaaDoorPlO
import Derived.BigQuiet
namespace Go.Proofs.YteikddopeplomaaDoor
open Go.RowKit Go.Maps

theorem calls_cell {w : World} {B : Nat} {n : Int} (c : w.cell? ⟨B, 3, none⟩ = some (.int .i64 n)) : Calls Tryd.prog 29 #[.pointer (some ⟨B, 0, none⟩)] w fun e w' => e = .returned (.int .i64 n) ∧ w' = w := by
  go_enter Tryd.func29, Tryd.ntmps29
  go_wp2_with fail
  go_ret
  exact ⟨rfl, rfl⟩

set_option hygiene false in
set_option maxRecDepth 100000 in
set_option maxHeartbeats 8000000 in
theorem plays_walk {w : World} {qs : List Addr} (he : Errs w qs) (n : Int) {v : Value} {l : List DoV} {S : Nat → Prop} (h : Sl kDo S w v l) :
    Calls Tryd.prog 10 #[.int .i64 n, v] w fun e w' => e = .returned (.bool true) ∧ Fr All w w' := by
  obtain ⟨LA, ln, lc, rfl, el, _⟩ := h.open_
  have EL := Lib.hid el
  have HE := Lib.hid he
  clear el he
  go_enter Tryd.func10, Tryd.ntmps10
  go_wp2_with fail
  refine (first5_call w).mono ?_
  rintro e w1 ⟨rfl, f1⟩
  have HQ := Lib.hid (HE.out.move f1)
  have HS := Lib.hid ((h.all f1).mono (T := fun y => y < w1.heap.size) fun _ _ hl => hl)
  clear h
  cases g0 : decide ((ln : Int) > 60) with
  | true =>
    go_wp2_with fail
    go_ret
    exact ⟨rfl, f1⟩
  | false =>
  have hln : ln ≤ 60 := by have := of_decide_eq_false g0; omega
  by_cases hb : n < 1 ∨ 16384 < n
  · obtain ⟨qa, hqa⟩ := HQ.out.get 4 (by omega)
    have HQA := Lib.hid hqa
    clear hqa
    go_wp2_with fail
    refine (bad_new HQ.out HQA.out hb).mono ?_
    rintro e w2 ⟨rfl, f2⟩
    go_wp2_with fail
    refine (rnew_bad w2 hb).mono ?_
    rintro e wn ⟨rfl, hwn⟩
    obtain rfl := hwn.symm
    go_wp2_with fail
    refine (see_is (Sees.bare (HQ.out.move f2) HQA.out) 105).mono ?_
    rintro e w3 ⟨rfl, f3⟩
    go_wp2_with fail
    go_ret
    exact ⟨rfl, (f1.trans f2).trans f3⟩
  · go_wp2_with fail
    refine (held_new w1 (by omega) (by omega)).mono ?_
    rintro e w2 ⟨B, bs, bp, rfl, h2⟩
    have H2 := Lib.hid h2
    have L0 := h2.dk.lt
    have L1 := h2.dk.syn.lt
    have L2 := h2.dk.pen.lt
    have L3 := h2.fr.size
    clear h2
    go_wp2_with fail
    refine (rnew_call (T := Off B bs bp) w2 (by omega) (by omega)).mono ?_
    rintro e w3 ⟨rfl, hr3, hlt3, f3⟩
    obtain ⟨R, hR⟩ : ∃ R, w2.heap.size = R := ⟨_, rfl⟩
    rw [hR] at hr3 hlt3 L0 L1 L2 L3 ⊢
    have H3 := Lib.hid (H2.out.all f3)
    have R3 := Lib.hid hr3
    have K3 := Lib.hid (PlB.start (n := n) (by omega) (by omega))
    have hoR : Off B bs bp R := ⟨by omega, by omega, by omega⟩
    clear hr3 hR
    go_wp2_with fail
    refine (see_is (Sees.nil_ w3) 0).mono ?_
    rintro e w4 ⟨rfl, f4⟩
    have H4 := Lib.hid (H3.out.all f4)
    have R4 := Lib.hid (R3.out.all f4)
    clear f3 f4 hb
    go_wp2_with fail
    go_loopw [10] (fun i wr => ∃ j : Nat, ∃ s r, j ≤ ln ∧ i = .int .i64 j ∧ Hid (PlB s r j) ∧ Hid (Held w1 wr B bs bp s) ∧ Hid (Rk (Off B bs bp) wr R r)) (fun i _ => ln - (intOf i).toNat)
    case atStart => exact ⟨0, _, _, Nat.zero_le _, rfl, K3, H4, R4⟩
    case round =>
      obtain ⟨j, s, r, hj, rfl, HK, HH, HR⟩ := hrel
      by_cases hlt : j < ln
      · obtain ⟨x, hx, _⟩ := get_of (l := l) (k := j) (by rw [EL.out]; exact hlt)
        obtain ⟨b, o, A0, n0, c0, A1, n1, c1, rfl, g0, g1, g2, g3, hn64, t0, t1⟩ := do_at (HS.out.all HH.out.fr) hx
        have b0 : (0 : Int) ≤ (j : Int) := by omega
        have b1 : (j : Int) < (ln : Int) := by omega
        have HT0 := Lib.hid t0
        have HT1 := Lib.hid t1
        have HN := Lib.hid hn64
        have X0 := heap_alloc_new wr (.cells #[.int .i64 x.kind, .int .i64 x.n, .slice A0 n0 c0, .slice A1 n1 c1] 73)
        have FX := (Fr.refl All wr).alloc (.cells #[.int .i64 x.kind, .int .i64 x.n, .slice A0 n0 c0, .slice A1 n1 c1] 73)
        clear hx t0 t1 hn64
        go_upto_region 16 with (fail)
        refine wp_name ?_
        intro W hW
        rw [← hW] at X0 FX
        clear hW g0 g1 g2 g3
        obtain ⟨X, hX⟩ : ∃ X, wr.heap.size = X := ⟨_, rfl⟩
        rw [hX] at X0 ⊢
        have hXl := blk_lt X0
        have M0 := HH.out.dk.lt
        have M1 := HH.out.dk.syn.lt
        have M2 := HH.out.dk.pen.lt
        have M3 := HR.out.lt
        rw [hX] at M0 M1 M2 M3
        obtain ⟨x0, x1, x2, x3, xz⟩ := blk4 X0
        have HW := Lib.hid (HH.out.all FX)
        have RW := Lib.hid (HR.out.all FX)
        have FW := Lib.hid (f1.trans (HH.out.fr.trans FX))
        have hl0 : x.bytes.length = n0 := HT0.out.len
        have hl1 : x.picks.length = n1 := HT1.out.len
        have HL0 := Lib.hid hl0
        have HL1 := Lib.hid hl1
        have HV0 := Lib.hid (HT0.out.all FX)
        have HV1 := Lib.hid (HT1.out.all FX)
        have HXw := Lib.hid hX
        clear hX hl0 hl1 X0 FX
        cases y0 : decide ((n0 : Int) > 400) with
        | true =>
          go_wp2_with fail
          go_ret
          exact ⟨rfl, FW.out⟩
        | false =>
        cases y1 : decide ((n1 : Int) > 30) with
        | true =>
          go_wp2_with fail
          go_ret
          exact ⟨rfl, FW.out⟩
        | false =>
        have hn1 : n1 ≤ 30 := by have := of_decide_eq_false y1; omega
        go_wp2_with fail
        refine (dclone_call HW.out.dk).mono ?_
        rintro e w5 ⟨B', bs', bp', rfl, l0, l1, l2, d5, _, _, f5⟩
        obtain ⟨cc, hcc⟩ : ∃ cc, s.calls = cc := ⟨_, rfl⟩
        have c3 := d5.c3
        rw [hcc] at c3
        have x0' := f5.cell (p := ⟨X, 0, none⟩) trivial x0
        have x1' := f5.cell (p := ⟨X, 1, none⟩) trivial x1
        have x2' := f5.cell (p := ⟨X, 2, none⟩) trivial x2
        have x3' := f5.cell (p := ⟨X, 3, none⟩) trivial x3
        have HC := Lib.hid (calls_cell c3)
        have H5 := Lib.hid (HW.out.all f5)
        have R5 := Lib.hid (RW.out.all f5)
        have V0 := Lib.hid (HV0.out.all f5)
        have V1 := Lib.hid (HV1.out.all f5)
        have hoX : Off B bs bp X := ⟨by omega, by omega, by omega⟩
        have hoC : Off B bs bp B' := ⟨by omega, by omega, by omega⟩
        have hXR : X ≠ R := by omega
        have hCR : B' ≠ R := by omega
        clear x0 x1 x2 x3 xz d5 hcc f5 HT0 HT1
        go_wp2_with fail
        refine HC.out.mono ?_
        rintro e wn ⟨rfl, hwn⟩
        obtain rfl := hwn.symm
        obtain ⟨q0, q1, q2, q3, q4, q5⟩ : s.arm ≤ 9223372036854775807 ∧ s.blocks ≤ 16384 ∧ s.np ≤ 100000 ∧ 0 ≤ s.calls ∧ s.calls ≤ 1000000 ∧ r.fuse ≤ 9223372036854775807 := ⟨HK.out.arm, HK.out.b1, by have := HK.out.n; omega, HK.out.c0, by have := HK.out.c1; omega, by rw [← HK.out.mt.fuse]; exact HK.out.arm⟩
        obtain ⟨p0, p1, p2⟩ : r.pend.length ≤ 1000000 ∧ 0 ≤ r.calls ∧ r.calls ≤ 1000000 := ⟨by have := HK.out.rn; omega, by rw [← HK.out.mt.calls]; exact q3, by rw [← HK.out.mt.calls]; exact q4⟩
        have hsz5 : B < w5.heap.size ∧ bs < w5.heap.size ∧ bp < w5.heap.size := ⟨H5.out.dk.lt, H5.out.dk.syn.lt, H5.out.dk.pen.lt⟩
        have QQ := Lib.hid (And.intro q0 (And.intro q1 (And.intro q2 (And.intro q3 (And.intro q4 q5)))))
        have PP := Lib.hid (And.intro p0 (And.intro p1 p2))
        clear q0 q1 q2 q3 q4 q5 p0 p1 p2
        cases k1 : (x.kind == 1) with
        | true =>
          go_upto_region 24 with (fail)
          have hcode := HK.out.mt.wcode x.n x.bytes.length
          have HCODE := Lib.hid hcode
          clear hcode
          go_region_held3 (fun w' => w'.cell? ⟨X, 1, none⟩ = some (.int .i64 x.n) ∧ w'.cell? ⟨X, 2, none⟩ = some (.slice A0 n0 c0))
            (first | go_keep | (go_split_ands; refine ⟨?_, ?_⟩ <;> first | exact Fr.cell (by assumption) hoX (by assumption) | exact Fr.cell (by assumption) hXR (by assumption) | exact Fr.cell (by assumption) trivial (by assumption)))
            (first
              | (go_at_call 26; refine (d_write (H5.out.all (Fr.refl All w5).drew) HQ.out (V0.out.all (Fr.refl All w5).drew) (fun y hy _ => by have := H5.out.l0; omega) QQ.out.1 QQ.out.2.1 QQ.out.2.2.1 QQ.out.2.2.2.1 QQ.out.2.2.2.2.1).mono ?_; rintro e wA ⟨z, rfl, hz, hA, fA⟩; rw [HCODE.out] at hz; have ZA := Lib.hid hz; have HA := Lib.hid hA; clear hz hA)
              | (go_at_call 45; refine (r_write (T := Off B bs bp) ((R5.out.all (Fr.refl All w5).drew).move fA hoR (fun _ _ hy _ => hy)) (fun y hy => by have : w5.heap.size ≤ wA.heap.size := fA.size; exact ⟨by omega, by omega, by omega⟩) ((V0.out.all (Fr.refl All w5).drew).move' fA (fun y hy _ => H5.out.offs y hy)) (fun y hy _ => by omega) QQ.out.2.2.2.2.2 PP.out.1 PP.out.2.1 PP.out.2.2).mono ?_; rintro e wB ⟨rfl, rB, fB⟩; have HB := Lib.hid (HA.out.past ((R5.out.all (Fr.refl All w5).drew).move fA hoR (fun _ _ hy _ => hy)).noU8 (by omega) fB hoR); have RB := Lib.hid rB; clear rB)
              | (go_at_call 24; refine (see_is (ZA.out.move HB.out.fr) (r.wcode x.n x.bytes.length)).mono ?_; rintro e wC ⟨rfl, fC⟩))
          have h7 := HB.out.all fC
          have r7 := RB.out.all fC
          have k7 := HK.out.wst x.n x.bytes
          have cA : wC.cell? ⟨B', 3, none⟩ = some (.int .i64 cc) := fC.cell (p := ⟨B', 3, none⟩) trivial (fB.cell (p := ⟨B', 3, none⟩) hCR (fA.cell (p := ⟨B', 3, none⟩) hoC c3))
          generalize s.wst x.n x.bytes = s7 at h7 k7
          generalize r.wst x.n x.bytes = q7 at r7 k7
          clear HCODE hsz5 QQ PP ZA HA HB RB fA fB fC
          obtain ⟨KA7, kc7, PA7, pc7, hb7, _, _⟩ := id r7
          obtain ⟨d0, d1, d2, d3, d4, d5, dz⟩ := blk6 hb7
          have hbn : ∀ m, Calls Tryd.prog 25 #[.pointer (some ⟨B, 0, none⟩)] (wC.drewN m) fun e w' => e = .returned (.int .i64 q7.blocks) ∧ w' = wC.drewN m := fun m => by
            have hh := blocks_call (h7.dk.all ((Fr.refl All wC).drewN m))
            rw [k7.mt.blocks] at hh
            exact hh
          have HBN := Lib.hid hbn
          have hpn : ∀ m, Calls Tryd.prog 28 #[.pointer (some ⟨B, 0, none⟩)] (wC.drewN m) fun e w' => e = .returned (.int .i64 (q7.pend.length : Int)) ∧ w' = wC.drewN m := fun m => by
            have hh := pending_call (h7.dk.all ((Fr.refl All wC).drewN m))
            rw [k7.mt.np] at hh
            exact hh
          have HPN := Lib.hid hpn
          have hcn : ∀ m, Calls Tryd.prog 29 #[.pointer (some ⟨B, 0, none⟩)] (wC.drewN m) fun e w' => e = .returned (.int .i64 q7.calls) ∧ w' = wC.drewN m := fun m => by
            have hh := calls_call (h7.dk.all ((Fr.refl All wC).drewN m))
            rw [k7.mt.calls] at hh
            exact hh
          have HCN := Lib.hid hcn
          have hdn : ∀ m, Calls Tryd.prog 40 #[.pointer (some ⟨B, 0, none⟩)] (wC.drewN m) fun e w' => e = .returned (.bool q7.down) ∧ w' = wC.drewN m := fun m => by
            have hh := down_call (h7.dk.all ((Fr.refl All wC).drewN m))
            rw [k7.mt.down] at hh
            exact hh
          have HDN := Lib.hid hdn
          have hcx : ∀ m, Calls Tryd.prog 29 #[.pointer (some ⟨B', 0, none⟩)] (wC.drewN m) fun e w' => e = .returned (.int .i64 cc) ∧ w' = wC.drewN m := fun m => calls_cell (((Fr.refl All wC).drewN m).cell (p := ⟨B', 3, none⟩) trivial cA)
          have HCX := Lib.hid hcx
          have H7 := Lib.hid h7
          have R7 := Lib.hid r7
          have K7 := Lib.hid k7
          have ne0 : (q7.blocks != q7.blocks) = false := by simp
          have ne1 : ((q7.pend.length : Int) != (q7.pend.length : Int)) = false := by simp
          have ne2 : (q7.calls != q7.calls) = false := by simp
          have ne3 : (q7.down != q7.down) = false := by simp
          have ne4 : (cc != cc) = false := by simp
          clear hbn hpn hcn hdn hcx h7 r7 k7 cA hb7
          go_upto_region 35 with (fail)
          go_quiet (first
            | (go_at_call 25; exact Calls.quiet_of_same (HBN.out _))
            | (go_at_call 28; exact Calls.quiet_of_same (HPN.out _))
            | (go_at_call_of 29 (Value.pointer (some ⟨B, 0, none⟩)); exact Calls.quiet_of_same (HCN.out _))
            | (go_at_call 40; exact Calls.quiet_of_same (HDN.out _))
            | (go_at_call_of 29 (Value.pointer (some ⟨B', 0, none⟩)); exact Calls.quiet_of_same (HCX.out _)))
          generalize hW8 : wC.drewN _ = W8
          have F8 : Fr All wC W8 := by
            rw [← hW8]
            exact (Fr.refl _ _).drewN _
          have H8 := Lib.hid (H7.out.all F8)
          have R8 := Lib.hid (R7.out.all F8)
          obtain ⟨M, hM⟩ : ∃ M, min (q7.blocks + 1) 14 = M := ⟨_, rfl⟩
          have hM2 : M ≤ 14 := by omega
          have hbw : IntKind.i64.wrap (q7.blocks + 1) = q7.blocks + 1 := IntWalk.i64_in _ (by have := K7.out.b0; have := K7.out.b1; rw [K7.out.mt.blocks] at *; omega)
          clear hW8 F8 HBN HPN HCN HDN HCX ne0 ne1 ne2 ne3 ne4 d0 d1 d2 d3 d4 d5 dz H7 R7
          go_wp2_with fail
          go_loopw [14] (fun k wr2 => ∃ z : Int, k = .int .i64 z ∧ -1 ≤ z ∧ z ≤ 14 ∧ Hid (Held w1 wr2 B bs bp s7) ∧ Hid (Rk (Off B bs bp) wr2 R q7)) (fun k _ => (M - intOf k).toNat)
          case atStart => exact ⟨-1, rfl, by omega, by omega, H8, R8⟩
          case round =>
            obtain ⟨z, rfl, hz0, hz1, HH2, HR2⟩ := hrel
            obtain ⟨KA8, kc8, PA8, pc8, hb8, _, _⟩ := HR2.out
            obtain ⟨d0, d1, d2, d3, d4, d5, dz⟩ := blk6 hb8
            clear hb8
            by_cases hlt2 : z < M
            · have b2 : decide (z < M) = true := decide_eq_true hlt2
              go_wp2_with fail
              refine (d_read HH2.out HQ.out z K7.out.b1 (fun xs hx => by have := K7.out.small hx; omega)).mono ?_
              rintro e w9 ⟨A9, n9, c9, xs9, z9, rfl, hz9, hx9, s9, h9, f9⟩
              rw [K7.out.mt.rget z] at hx9 ⊢
              rw [K7.out.mt.rcode z] at hz9
              have hxl := K7.out.rsmall z
              rw [← hx9] at hxl
              obtain ⟨bb, hbb⟩ : ∃ bb, (q7.rget z).isSome = bb := ⟨_, rfl⟩
              rw [hbb]
              have Z9 := Lib.hid hz9
              have X9 := Lib.hid hx9
              have S9 := Lib.hid s9
              have H9 := Lib.hid h9
              have R9 := Lib.hid (HR2.out.all f9)
              have HBB := Lib.hid hbb
              clear hz9 hx9 s9 h9 f9 hbb d0 d1 d2 d3 d4 d5 dz
              go_wp2_with fail
              refine (r_read R9.out z (by have := K7.out.rn; omega)).mono ?_
              rintro e wn ⟨A10, n10, c10, xs10, rfl, hx10, s10, hwn⟩
              obtain rfl := hwn.symm
              rw [HBB.out]
              obtain rfl : xs9 = xs10 := X9.out.trans hx10.symm
              have S10 := Lib.hid s10
              have hdd : decide (xs9 = xs9) = true := decide_eq_true rfl
              clear hx10 s10
              go_wp2_with fail
              refine (same_bytes S9.out S10.out (by omega)).mono ?_
              rintro e w11 ⟨rfl, f11⟩
              have H11 := Lib.hid (H9.out.all f11)
              have R11 := Lib.hid (R9.out.all f11)
              clear f11
              go_wp2_with fail
              refine (see_is (Z9.out.move H11.out.fr) (q7.rcode z)).mono ?_
              rintro e w12 ⟨rfl, f12⟩
              have H12 := Lib.hid (H11.out.all f12)
              have R12 := Lib.hid (R11.out.all f12)
              clear f12
              go_wp2_with fail
              go_roundw
              case rel => exact ⟨z + 1, by go_num, by omega, by omega, H12, R12⟩
              case measure => simp [intOf]; omega
            · have b2 : decide (z < M) = false := decide_eq_false hlt2
              go_wp2_with fail
              go_roundw
              case rel => exact ⟨j + 1, s7, q7, by omega, by go_num, K7, HH2, HR2⟩
              case measure => simp [intOf]; omega
        | false =>
        cases k2 : (x.kind == 2) with
        | true =>
          go_wp2_with fail
          refine (d_sync H5.out HQ.out QQ.out.1 (by have := HK.out.n; omega) QQ.out.2.2.2.1 QQ.out.2.2.2.2.1).mono ?_
          rintro e wA ⟨z, nn, rfl, hz, hnn, hA, fA⟩
          rw [HK.out.mt.scode] at hz
          have ZA := Lib.hid hz
          have hRA := R5.out.move fA hoR (fun _ _ hy _ => hy)
          have RA := Lib.hid hRA
          have HA := Lib.hid hA
          have KA2 := Lib.hid (HK.out.sst hnn)
          clear hz hRA hA hnn
          go_wp2_with fail
          refine (r_sync (T := Off B bs bp) RA.out (fun y hy => by have : w5.heap.size ≤ wA.heap.size := fA.size; exact ⟨by omega, by omega, by omega⟩) QQ.out.2.2.2.2.2 (by have := HK.out.rn; omega) PP.out.2.1 PP.out.2.2).mono ?_
          rintro e wB ⟨rfl, rB, fB⟩
          have hB := HA.out.past RA.out.noU8 (by omega) fB hoR
          have HB := Lib.hid hB
          have RB := Lib.hid rB
          clear hB rB
          go_wp2_with fail
          refine (see_is (ZA.out.move HB.out.fr) r.scode).mono ?_
          rintro e wC ⟨rfl, fC⟩
          obtain ⟨s7, q7, h7, r7, k7⟩ : ∃ s7 q7, Held w1 wC B bs bp s7 ∧ Rk (Off B bs bp) wC R q7 ∧ PlB s7 q7 (j + 1) := ⟨_, _, HB.out.all fC, RB.out.all fC, KA2.out⟩
          have cA : wC.cell? ⟨B', 3, none⟩ = some (.int .i64 cc) := fC.cell (p := ⟨B', 3, none⟩) trivial (fB.cell (p := ⟨B', 3, none⟩) hCR (fA.cell (p := ⟨B', 3, none⟩) hoC c3))
          clear hsz5 QQ PP ZA HA HB RA RB KA2 fA fB fC
          obtain ⟨KA7, kc7, PA7, pc7, hb7, _, _⟩ := id r7
          obtain ⟨d0, d1, d2, d3, d4, d5, dz⟩ := blk6 hb7
          have hbn : ∀ m, Calls Tryd.prog 25 #[.pointer (some ⟨B, 0, none⟩)] (wC.drewN m) fun e w' => e = .returned (.int .i64 q7.blocks) ∧ w' = wC.drewN m := fun m => by
            have hh := blocks_call (h7.dk.all ((Fr.refl All wC).drewN m))
            rw [k7.mt.blocks] at hh
            exact hh
          have HBN := Lib.hid hbn
          have hpn : ∀ m, Calls Tryd.prog 28 #[.pointer (some ⟨B, 0, none⟩)] (wC.drewN m) fun e w' => e = .returned (.int .i64 (q7.pend.length : Int)) ∧ w' = wC.drewN m := fun m => by
            have hh := pending_call (h7.dk.all ((Fr.refl All wC).drewN m))
            rw [k7.mt.np] at hh
            exact hh
          have HPN := Lib.hid hpn
          have hcn : ∀ m, Calls Tryd.prog 29 #[.pointer (some ⟨B, 0, none⟩)] (wC.drewN m) fun e w' => e = .returned (.int .i64 q7.calls) ∧ w' = wC.drewN m := fun m => by
            have hh := calls_call (h7.dk.all ((Fr.refl All wC).drewN m))
            rw [k7.mt.calls] at hh
            exact hh
          have HCN := Lib.hid hcn
          have hdn : ∀ m, Calls Tryd.prog 40 #[.pointer (some ⟨B, 0, none⟩)] (wC.drewN m) fun e w' => e = .returned (.bool q7.down) ∧ w' = wC.drewN m := fun m => by
            have hh := down_call (h7.dk.all ((Fr.refl All wC).drewN m))
            rw [k7.mt.down] at hh
            exact hh
          have HDN := Lib.hid hdn
          have hcx : ∀ m, Calls Tryd.prog 29 #[.pointer (some ⟨B', 0, none⟩)] (wC.drewN m) fun e w' => e = .returned (.int .i64 cc) ∧ w' = wC.drewN m := fun m => calls_cell (((Fr.refl All wC).drewN m).cell (p := ⟨B', 3, none⟩) trivial cA)
          have HCX := Lib.hid hcx
          have H7 := Lib.hid h7
          have R7 := Lib.hid r7
          have K7 := Lib.hid k7
          have ne0 : (q7.blocks != q7.blocks) = false := by simp
          have ne1 : ((q7.pend.length : Int) != (q7.pend.length : Int)) = false := by simp
          have ne2 : (q7.calls != q7.calls) = false := by simp
          have ne3 : (q7.down != q7.down) = false := by simp
          have ne4 : (cc != cc) = false := by simp
          clear hbn hpn hcn hdn hcx h7 r7 k7 cA hb7
          go_upto_region 35 with (fail)
          go_quiet (first
            | (go_at_call 25; exact Calls.quiet_of_same (HBN.out _))
            | (go_at_call 28; exact Calls.quiet_of_same (HPN.out _))
            | (go_at_call_of 29 (Value.pointer (some ⟨B, 0, none⟩)); exact Calls.quiet_of_same (HCN.out _))
            | (go_at_call 40; exact Calls.quiet_of_same (HDN.out _))
            | (go_at_call_of 29 (Value.pointer (some ⟨B', 0, none⟩)); exact Calls.quiet_of_same (HCX.out _)))
          generalize hW8 : wC.drewN _ = W8
          have F8 : Fr All wC W8 := by
            rw [← hW8]
            exact (Fr.refl _ _).drewN _
          have H8 := Lib.hid (H7.out.all F8)
          have R8 := Lib.hid (R7.out.all F8)
          obtain ⟨M, hM⟩ : ∃ M, min (q7.blocks + 1) 14 = M := ⟨_, rfl⟩
          have hM2 : M ≤ 14 := by omega
          have hbw : IntKind.i64.wrap (q7.blocks + 1) = q7.blocks + 1 := IntWalk.i64_in _ (by have := K7.out.b0; have := K7.out.b1; rw [K7.out.mt.blocks] at *; omega)
          clear hW8 F8 HBN HPN HCN HDN HCX ne0 ne1 ne2 ne3 ne4 d0 d1 d2 d3 d4 d5 dz H7 R7
          go_wp2_with fail
          go_loopw [14] (fun k wr2 => ∃ z : Int, k = .int .i64 z ∧ -1 ≤ z ∧ z ≤ 14 ∧ Hid (Held w1 wr2 B bs bp s7) ∧ Hid (Rk (Off B bs bp) wr2 R q7)) (fun k _ => (M - intOf k).toNat)
          case atStart => exact ⟨-1, rfl, by omega, by omega, H8, R8⟩
          case round =>
            obtain ⟨z, rfl, hz0, hz1, HH2, HR2⟩ := hrel
            obtain ⟨KA8, kc8, PA8, pc8, hb8, _, _⟩ := HR2.out
            obtain ⟨d0, d1, d2, d3, d4, d5, dz⟩ := blk6 hb8
            clear hb8
            by_cases hlt2 : z < M
            · have b2 : decide (z < M) = true := decide_eq_true hlt2
              go_wp2_with fail
              refine (d_read HH2.out HQ.out z K7.out.b1 (fun xs hx => by have := K7.out.small hx; omega)).mono ?_
              rintro e w9 ⟨A9, n9, c9, xs9, z9, rfl, hz9, hx9, s9, h9, f9⟩
              rw [K7.out.mt.rget z] at hx9 ⊢
              rw [K7.out.mt.rcode z] at hz9
              have hxl := K7.out.rsmall z
              rw [← hx9] at hxl
              obtain ⟨bb, hbb⟩ : ∃ bb, (q7.rget z).isSome = bb := ⟨_, rfl⟩
              rw [hbb]
              have Z9 := Lib.hid hz9
              have X9 := Lib.hid hx9
              have S9 := Lib.hid s9
              have H9 := Lib.hid h9
              have R9 := Lib.hid (HR2.out.all f9)
              have HBB := Lib.hid hbb
              clear hz9 hx9 s9 h9 f9 hbb d0 d1 d2 d3 d4 d5 dz
              go_wp2_with fail
              refine (r_read R9.out z (by have := K7.out.rn; omega)).mono ?_
              rintro e wn ⟨A10, n10, c10, xs10, rfl, hx10, s10, hwn⟩
              obtain rfl := hwn.symm
              rw [HBB.out]
              obtain rfl : xs9 = xs10 := X9.out.trans hx10.symm
              have S10 := Lib.hid s10
              have hdd : decide (xs9 = xs9) = true := decide_eq_true rfl
              clear hx10 s10
              go_wp2_with fail
              refine (same_bytes S9.out S10.out (by omega)).mono ?_
              rintro e w11 ⟨rfl, f11⟩
              have H11 := Lib.hid (H9.out.all f11)
              have R11 := Lib.hid (R9.out.all f11)
              clear f11
              go_wp2_with fail
              refine (see_is (Z9.out.move H11.out.fr) (q7.rcode z)).mono ?_
              rintro e w12 ⟨rfl, f12⟩
              have H12 := Lib.hid (H11.out.all f12)
              have R12 := Lib.hid (R11.out.all f12)
              clear f12
              go_wp2_with fail
              go_roundw
              case rel => exact ⟨z + 1, by go_num, by omega, by omega, H12, R12⟩
              case measure => simp [intOf]; omega
            · have b2 : decide (z < M) = false := decide_eq_false hlt2
              go_wp2_with fail
              go_roundw
              case rel => exact ⟨j + 1, s7, q7, by omega, by go_num, K7, HH2, HR2⟩
              case measure => simp [intOf]; omega
        | false =>
        cases k3 : (x.kind == 3) with
        | true =>
          go_wp2_with fail
          refine (arm_call H5.out.dk x.n).mono ?_
          rintro e wA ⟨rfl, dA, fA0⟩
          have fA : Fr (Off B bs bp) w5 wA := fA0.mono fun y (hy : Off B bs bp y) => hy.1
          have hRA := R5.out.move fA hoR (fun _ _ hy _ => hy)
          have RA := Lib.hid hRA
          have HA := Lib.hid (H5.out.off fA dA)
          have x1a := fA.cell (p := ⟨X, 1, none⟩) hoX x1'
          clear hRA dA fA0
          go_wp2_with fail
          refine (rarm_call RA.out x.n).mono ?_
          rintro e wB ⟨rfl, rB, fB⟩
          obtain ⟨s7, q7, h7, r7, k7⟩ : ∃ s7 q7, Held w1 wB B bs bp s7 ∧ Rk (Off B bs bp) wB R q7 ∧ PlB s7 q7 (j + 1) := ⟨_, _, HA.out.past RA.out.noU8 (by omega) fB hoR, rB, HK.out.armed HN.out⟩
          have cA : wB.cell? ⟨B', 3, none⟩ = some (.int .i64 cc) := fB.cell (p := ⟨B', 3, none⟩) hCR (fA.cell (p := ⟨B', 3, none⟩) hoC c3)
          clear hsz5 QQ PP HA RA rB fA fB x1a
          obtain ⟨KA7, kc7, PA7, pc7, hb7, _, _⟩ := id r7
          obtain ⟨d0, d1, d2, d3, d4, d5, dz⟩ := blk6 hb7
          have hbn : ∀ m, Calls Tryd.prog 25 #[.pointer (some ⟨B, 0, none⟩)] (wB.drewN m) fun e w' => e = .returned (.int .i64 q7.blocks) ∧ w' = wB.drewN m := fun m => by
            have hh := blocks_call (h7.dk.all ((Fr.refl All wB).drewN m))
            rw [k7.mt.blocks] at hh
            exact hh
          have HBN := Lib.hid hbn
          have hpn : ∀ m, Calls Tryd.prog 28 #[.pointer (some ⟨B, 0, none⟩)] (wB.drewN m) fun e w' => e = .returned (.int .i64 (q7.pend.length : Int)) ∧ w' = wB.drewN m := fun m => by
            have hh := pending_call (h7.dk.all ((Fr.refl All wB).drewN m))
            rw [k7.mt.np] at hh
            exact hh
          have HPN := Lib.hid hpn
          have hcn : ∀ m, Calls Tryd.prog 29 #[.pointer (some ⟨B, 0, none⟩)] (wB.drewN m) fun e w' => e = .returned (.int .i64 q7.calls) ∧ w' = wB.drewN m := fun m => by
            have hh := calls_call (h7.dk.all ((Fr.refl All wB).drewN m))
            rw [k7.mt.calls] at hh
            exact hh
          have HCN := Lib.hid hcn
          have hdn : ∀ m, Calls Tryd.prog 40 #[.pointer (some ⟨B, 0, none⟩)] (wB.drewN m) fun e w' => e = .returned (.bool q7.down) ∧ w' = wB.drewN m := fun m => by
            have hh := down_call (h7.dk.all ((Fr.refl All wB).drewN m))
            rw [k7.mt.down] at hh
            exact hh
          have HDN := Lib.hid hdn
          have hcx : ∀ m, Calls Tryd.prog 29 #[.pointer (some ⟨B', 0, none⟩)] (wB.drewN m) fun e w' => e = .returned (.int .i64 cc) ∧ w' = wB.drewN m := fun m => calls_cell (((Fr.refl All wB).drewN m).cell (p := ⟨B', 3, none⟩) trivial cA)
          have HCX := Lib.hid hcx
          have H7 := Lib.hid h7
          have R7 := Lib.hid r7
          have K7 := Lib.hid k7
          have ne0 : (q7.blocks != q7.blocks) = false := by simp
          have ne1 : ((q7.pend.length : Int) != (q7.pend.length : Int)) = false := by simp
          have ne2 : (q7.calls != q7.calls) = false := by simp
          have ne3 : (q7.down != q7.down) = false := by simp
          have ne4 : (cc != cc) = false := by simp
          clear hbn hpn hcn hdn hcx h7 r7 k7 cA hb7
          go_upto_region 35 with (fail)
          go_quiet (first
            | (go_at_call 25; exact Calls.quiet_of_same (HBN.out _))
            | (go_at_call 28; exact Calls.quiet_of_same (HPN.out _))
            | (go_at_call_of 29 (Value.pointer (some ⟨B, 0, none⟩)); exact Calls.quiet_of_same (HCN.out _))
            | (go_at_call 40; exact Calls.quiet_of_same (HDN.out _))
            | (go_at_call_of 29 (Value.pointer (some ⟨B', 0, none⟩)); exact Calls.quiet_of_same (HCX.out _)))
          generalize hW8 : wB.drewN _ = W8
          have F8 : Fr All wB W8 := by
            rw [← hW8]
            exact (Fr.refl _ _).drewN _
          have H8 := Lib.hid (H7.out.all F8)
          have R8 := Lib.hid (R7.out.all F8)
          obtain ⟨M, hM⟩ : ∃ M, min (q7.blocks + 1) 14 = M := ⟨_, rfl⟩
          have hM2 : M ≤ 14 := by omega
          have hbw : IntKind.i64.wrap (q7.blocks + 1) = q7.blocks + 1 := IntWalk.i64_in _ (by have := K7.out.b0; have := K7.out.b1; rw [K7.out.mt.blocks] at *; omega)
          clear hW8 F8 HBN HPN HCN HDN HCX ne0 ne1 ne2 ne3 ne4 d0 d1 d2 d3 d4 d5 dz H7 R7
          go_wp2_with fail
          go_loopw [14] (fun k wr2 => ∃ z : Int, k = .int .i64 z ∧ -1 ≤ z ∧ z ≤ 14 ∧ Hid (Held w1 wr2 B bs bp s7) ∧ Hid (Rk (Off B bs bp) wr2 R q7)) (fun k _ => (M - intOf k).toNat)
          case atStart => exact ⟨-1, rfl, by omega, by omega, H8, R8⟩
          case round =>
            obtain ⟨z, rfl, hz0, hz1, HH2, HR2⟩ := hrel
            obtain ⟨KA8, kc8, PA8, pc8, hb8, _, _⟩ := HR2.out
            obtain ⟨d0, d1, d2, d3, d4, d5, dz⟩ := blk6 hb8
            clear hb8
            by_cases hlt2 : z < M
            · have b2 : decide (z < M) = true := decide_eq_true hlt2
              go_wp2_with fail
              refine (d_read HH2.out HQ.out z K7.out.b1 (fun xs hx => by have := K7.out.small hx; omega)).mono ?_
              rintro e w9 ⟨A9, n9, c9, xs9, z9, rfl, hz9, hx9, s9, h9, f9⟩
              rw [K7.out.mt.rget z] at hx9 ⊢
              rw [K7.out.mt.rcode z] at hz9
              have hxl := K7.out.rsmall z
              rw [← hx9] at hxl
              obtain ⟨bb, hbb⟩ : ∃ bb, (q7.rget z).isSome = bb := ⟨_, rfl⟩
              rw [hbb]
              have Z9 := Lib.hid hz9
              have X9 := Lib.hid hx9
              have S9 := Lib.hid s9
              have H9 := Lib.hid h9
              have R9 := Lib.hid (HR2.out.all f9)
              have HBB := Lib.hid hbb
              clear hz9 hx9 s9 h9 f9 hbb d0 d1 d2 d3 d4 d5 dz
              go_wp2_with fail
              refine (r_read R9.out z (by have := K7.out.rn; omega)).mono ?_
              rintro e wn ⟨A10, n10, c10, xs10, rfl, hx10, s10, hwn⟩
              obtain rfl := hwn.symm
              rw [HBB.out]
              obtain rfl : xs9 = xs10 := X9.out.trans hx10.symm
              have S10 := Lib.hid s10
              have hdd : decide (xs9 = xs9) = true := decide_eq_true rfl
              clear hx10 s10
              go_wp2_with fail
              refine (same_bytes S9.out S10.out (by omega)).mono ?_
              rintro e w11 ⟨rfl, f11⟩
              have H11 := Lib.hid (H9.out.all f11)
              have R11 := Lib.hid (R9.out.all f11)
              clear f11
              go_wp2_with fail
              refine (see_is (Z9.out.move H11.out.fr) (q7.rcode z)).mono ?_
              rintro e w12 ⟨rfl, f12⟩
              have H12 := Lib.hid (H11.out.all f12)
              have R12 := Lib.hid (R11.out.all f12)
              clear f12
              go_wp2_with fail
              go_roundw
              case rel => exact ⟨z + 1, by go_num, by omega, by omega, H12, R12⟩
              case measure => simp [intOf]; omega
            · have b2 : decide (z < M) = false := decide_eq_false hlt2
              go_wp2_with fail
              go_roundw
              case rel => exact ⟨j + 1, s7, q7, by omega, by go_num, K7, HH2, HR2⟩
              case measure => simp [intOf]; omega
        | false =>
        cases k4 : (x.kind == 4) with
        | true =>
          go_wp2_with fail
          refine (held_crash H5.out V1.out (fun y hy _ => H5.out.offs y hy) (by have := HK.out.n; omega) (by rw [HL1.out]; omega)).mono ?_
          rintro e wA ⟨ks, nn, rfl, hks, hnn, hA, fA⟩
          have hRA := R5.out.move fA hoR (fun _ _ hy _ => hy)
          have RA := Lib.hid hRA
          have HA := Lib.hid hA
          have KA2 := Lib.hid (HK.out.crashed hks x.picks hnn)
          have V2 := Lib.hid (V1.out.move' fA (fun y hy _ => H5.out.offs y hy))
          have x3a := fA.cell (p := ⟨X, 3, none⟩) hoX x3'
          clear hRA hA hks hnn
          go_wp2_with fail
          refine (rcrash_call (T := Off B bs bp) RA.out (fun y hy => by have : w5.heap.size ≤ wA.heap.size := fA.size; exact ⟨by omega, by omega, by omega⟩) V2.out (fun y hy _ => by omega) (by have := HK.out.rn; omega) (by rw [HL1.out]; omega)).mono ?_
          rintro e wB ⟨rfl, rB, fB⟩
          obtain ⟨s7, q7, h7, r7, k7⟩ : ∃ s7 q7, Held w1 wB B bs bp s7 ∧ Rk (Off B bs bp) wB R q7 ∧ PlB s7 q7 (j + 1) := ⟨_, _, HA.out.past RA.out.noU8 (by omega) fB hoR, rB, KA2.out⟩
          have cA : wB.cell? ⟨B', 3, none⟩ = some (.int .i64 cc) := fB.cell (p := ⟨B', 3, none⟩) hCR (fA.cell (p := ⟨B', 3, none⟩) hoC c3)
          clear hsz5 QQ PP HA RA rB fA fB x3a V2 KA2
          obtain ⟨KA7, kc7, PA7, pc7, hb7, _, _⟩ := id r7
          obtain ⟨d0, d1, d2, d3, d4, d5, dz⟩ := blk6 hb7
          have hbn : ∀ m, Calls Tryd.prog 25 #[.pointer (some ⟨B, 0, none⟩)] (wB.drewN m) fun e w' => e = .returned (.int .i64 q7.blocks) ∧ w' = wB.drewN m := fun m => by
            have hh := blocks_call (h7.dk.all ((Fr.refl All wB).drewN m))
            rw [k7.mt.blocks] at hh
            exact hh
          have HBN := Lib.hid hbn
          have hpn : ∀ m, Calls Tryd.prog 28 #[.pointer (some ⟨B, 0, none⟩)] (wB.drewN m) fun e w' => e = .returned (.int .i64 (q7.pend.length : Int)) ∧ w' = wB.drewN m := fun m => by
            have hh := pending_call (h7.dk.all ((Fr.refl All wB).drewN m))
            rw [k7.mt.np] at hh
            exact hh
          have HPN := Lib.hid hpn
          have hcn : ∀ m, Calls Tryd.prog 29 #[.pointer (some ⟨B, 0, none⟩)] (wB.drewN m) fun e w' => e = .returned (.int .i64 q7.calls) ∧ w' = wB.drewN m := fun m => by
            have hh := calls_call (h7.dk.all ((Fr.refl All wB).drewN m))
            rw [k7.mt.calls] at hh
            exact hh
          have HCN := Lib.hid hcn
          have hdn : ∀ m, Calls Tryd.prog 40 #[.pointer (some ⟨B, 0, none⟩)] (wB.drewN m) fun e w' => e = .returned (.bool q7.down) ∧ w' = wB.drewN m := fun m => by
            have hh := down_call (h7.dk.all ((Fr.refl All wB).drewN m))
            rw [k7.mt.down] at hh
            exact hh
          have HDN := Lib.hid hdn
          have hcx : ∀ m, Calls Tryd.prog 29 #[.pointer (some ⟨B', 0, none⟩)] (wB.drewN m) fun e w' => e = .returned (.int .i64 cc) ∧ w' = wB.drewN m := fun m => calls_cell (((Fr.refl All wB).drewN m).cell (p := ⟨B', 3, none⟩) trivial cA)
          have HCX := Lib.hid hcx
          have H7 := Lib.hid h7
          have R7 := Lib.hid r7
          have K7 := Lib.hid k7
          have ne0 : (q7.blocks != q7.blocks) = false := by simp
          have ne1 : ((q7.pend.length : Int) != (q7.pend.length : Int)) = false := by simp
          have ne2 : (q7.calls != q7.calls) = false := by simp
          have ne3 : (q7.down != q7.down) = false := by simp
          have ne4 : (cc != cc) = false := by simp
          clear hbn hpn hcn hdn hcx h7 r7 k7 cA hb7
          go_upto_region 35 with (fail)
          go_quiet (first
            | (go_at_call 25; exact Calls.quiet_of_same (HBN.out _))
            | (go_at_call 28; exact Calls.quiet_of_same (HPN.out _))
            | (go_at_call_of 29 (Value.pointer (some ⟨B, 0, none⟩)); exact Calls.quiet_of_same (HCN.out _))
            | (go_at_call 40; exact Calls.quiet_of_same (HDN.out _))
            | (go_at_call_of 29 (Value.pointer (some ⟨B', 0, none⟩)); exact Calls.quiet_of_same (HCX.out _)))
          generalize hW8 : wB.drewN _ = W8
          have F8 : Fr All wB W8 := by
            rw [← hW8]
            exact (Fr.refl _ _).drewN _
          have H8 := Lib.hid (H7.out.all F8)
          have R8 := Lib.hid (R7.out.all F8)
          obtain ⟨M, hM⟩ : ∃ M, min (q7.blocks + 1) 14 = M := ⟨_, rfl⟩
          have hM2 : M ≤ 14 := by omega
          have hbw : IntKind.i64.wrap (q7.blocks + 1) = q7.blocks + 1 := IntWalk.i64_in _ (by have := K7.out.b0; have := K7.out.b1; rw [K7.out.mt.blocks] at *; omega)
          clear hW8 F8 HBN HPN HCN HDN HCX ne0 ne1 ne2 ne3 ne4 d0 d1 d2 d3 d4 d5 dz H7 R7
          go_wp2_with fail
          go_loopw [14] (fun k wr2 => ∃ z : Int, k = .int .i64 z ∧ -1 ≤ z ∧ z ≤ 14 ∧ Hid (Held w1 wr2 B bs bp s7) ∧ Hid (Rk (Off B bs bp) wr2 R q7)) (fun k _ => (M - intOf k).toNat)
          case atStart => exact ⟨-1, rfl, by omega, by omega, H8, R8⟩
          case round =>
            obtain ⟨z, rfl, hz0, hz1, HH2, HR2⟩ := hrel
            obtain ⟨KA8, kc8, PA8, pc8, hb8, _, _⟩ := HR2.out
            obtain ⟨d0, d1, d2, d3, d4, d5, dz⟩ := blk6 hb8
            clear hb8
            by_cases hlt2 : z < M
            · have b2 : decide (z < M) = true := decide_eq_true hlt2
              go_wp2_with fail
              refine (d_read HH2.out HQ.out z K7.out.b1 (fun xs hx => by have := K7.out.small hx; omega)).mono ?_
              rintro e w9 ⟨A9, n9, c9, xs9, z9, rfl, hz9, hx9, s9, h9, f9⟩
              rw [K7.out.mt.rget z] at hx9 ⊢
              rw [K7.out.mt.rcode z] at hz9
              have hxl := K7.out.rsmall z
              rw [← hx9] at hxl
              obtain ⟨bb, hbb⟩ : ∃ bb, (q7.rget z).isSome = bb := ⟨_, rfl⟩
              rw [hbb]
              have Z9 := Lib.hid hz9
              have X9 := Lib.hid hx9
              have S9 := Lib.hid s9
              have H9 := Lib.hid h9
              have R9 := Lib.hid (HR2.out.all f9)
              have HBB := Lib.hid hbb
              clear hz9 hx9 s9 h9 f9 hbb d0 d1 d2 d3 d4 d5 dz
              go_wp2_with fail
              refine (r_read R9.out z (by have := K7.out.rn; omega)).mono ?_
              rintro e wn ⟨A10, n10, c10, xs10, rfl, hx10, s10, hwn⟩
              obtain rfl := hwn.symm
              rw [HBB.out]
              obtain rfl : xs9 = xs10 := X9.out.trans hx10.symm
              have S10 := Lib.hid s10
              have hdd : decide (xs9 = xs9) = true := decide_eq_true rfl
              clear hx10 s10
              go_wp2_with fail
              refine (same_bytes S9.out S10.out (by omega)).mono ?_
              rintro e w11 ⟨rfl, f11⟩
              have H11 := Lib.hid (H9.out.all f11)
              have R11 := Lib.hid (R9.out.all f11)
              clear f11
              go_wp2_with fail
              refine (see_is (Z9.out.move H11.out.fr) (q7.rcode z)).mono ?_
              rintro e w12 ⟨rfl, f12⟩
              have H12 := Lib.hid (H11.out.all f12)
              have R12 := Lib.hid (R11.out.all f12)
              clear f12
              go_wp2_with fail
              go_roundw
              case rel => exact ⟨z + 1, by go_num, by omega, by omega, H12, R12⟩
              case measure => simp [intOf]; omega
            · have b2 : decide (z < M) = false := decide_eq_false hlt2
              go_wp2_with fail
              go_roundw
              case rel => exact ⟨j + 1, s7, q7, by omega, by go_num, K7, HH2, HR2⟩
              case measure => simp [intOf]; omega
        | false =>
          go_wp2_with fail
          refine (erase_call H5.out.dk).mono ?_
          rintro e wA ⟨rfl, dA, fA⟩
          have hRA := R5.out.move fA hoR (fun _ _ hy _ => hy)
          have RA := Lib.hid hRA
          have HA := Lib.hid (H5.out.off fA dA)
          clear hRA dA
          go_wp2_with fail
          refine (rerase_call RA.out).mono ?_
          rintro e wB ⟨rfl, rB, fB⟩
          obtain ⟨s7, q7, h7, r7, k7⟩ : ∃ s7 q7, Held w1 wB B bs bp s7 ∧ Rk (Off B bs bp) wB R q7 ∧ PlB s7 q7 (j + 1) := ⟨_, _, HA.out.past RA.out.noU8 (by omega) fB hoR, rB, HK.out.erased⟩
          have cA : wB.cell? ⟨B', 3, none⟩ = some (.int .i64 cc) := fB.cell (p := ⟨B', 3, none⟩) hCR (fA.cell (p := ⟨B', 3, none⟩) hoC c3)
          clear hsz5 QQ PP HA RA rB fA fB
          obtain ⟨KA7, kc7, PA7, pc7, hb7, _, _⟩ := id r7
          obtain ⟨d0, d1, d2, d3, d4, d5, dz⟩ := blk6 hb7
          have hbn : ∀ m, Calls Tryd.prog 25 #[.pointer (some ⟨B, 0, none⟩)] (wB.drewN m) fun e w' => e = .returned (.int .i64 q7.blocks) ∧ w' = wB.drewN m := fun m => by
            have hh := blocks_call (h7.dk.all ((Fr.refl All wB).drewN m))
            rw [k7.mt.blocks] at hh
            exact hh
          have HBN := Lib.hid hbn
          have hpn : ∀ m, Calls Tryd.prog 28 #[.pointer (some ⟨B, 0, none⟩)] (wB.drewN m) fun e w' => e = .returned (.int .i64 (q7.pend.length : Int)) ∧ w' = wB.drewN m := fun m => by
            have hh := pending_call (h7.dk.all ((Fr.refl All wB).drewN m))
            rw [k7.mt.np] at hh
            exact hh
          have HPN := Lib.hid hpn
          have hcn : ∀ m, Calls Tryd.prog 29 #[.pointer (some ⟨B, 0, none⟩)] (wB.drewN m) fun e w' => e = .returned (.int .i64 q7.calls) ∧ w' = wB.drewN m := fun m => by
            have hh := calls_call (h7.dk.all ((Fr.refl All wB).drewN m))
            rw [k7.mt.calls] at hh
            exact hh
          have HCN := Lib.hid hcn
          have hdn : ∀ m, Calls Tryd.prog 40 #[.pointer (some ⟨B, 0, none⟩)] (wB.drewN m) fun e w' => e = .returned (.bool q7.down) ∧ w' = wB.drewN m := fun m => by
            have hh := down_call (h7.dk.all ((Fr.refl All wB).drewN m))
            rw [k7.mt.down] at hh
            exact hh
          have HDN := Lib.hid hdn
          have hcx : ∀ m, Calls Tryd.prog 29 #[.pointer (some ⟨B', 0, none⟩)] (wB.drewN m) fun e w' => e = .returned (.int .i64 cc) ∧ w' = wB.drewN m := fun m => calls_cell (((Fr.refl All wB).drewN m).cell (p := ⟨B', 3, none⟩) trivial cA)
          have HCX := Lib.hid hcx
          have H7 := Lib.hid h7
          have R7 := Lib.hid r7
          have K7 := Lib.hid k7
          have ne0 : (q7.blocks != q7.blocks) = false := by simp
          have ne1 : ((q7.pend.length : Int) != (q7.pend.length : Int)) = false := by simp
          have ne2 : (q7.calls != q7.calls) = false := by simp
          have ne3 : (q7.down != q7.down) = false := by simp
          have ne4 : (cc != cc) = false := by simp
          clear hbn hpn hcn hdn hcx h7 r7 k7 cA hb7
          go_upto_region 35 with (fail)
          go_quiet (first
            | (go_at_call 25; exact Calls.quiet_of_same (HBN.out _))
            | (go_at_call 28; exact Calls.quiet_of_same (HPN.out _))
            | (go_at_call_of 29 (Value.pointer (some ⟨B, 0, none⟩)); exact Calls.quiet_of_same (HCN.out _))
            | (go_at_call 40; exact Calls.quiet_of_same (HDN.out _))
            | (go_at_call_of 29 (Value.pointer (some ⟨B', 0, none⟩)); exact Calls.quiet_of_same (HCX.out _)))
          generalize hW8 : wB.drewN _ = W8
          have F8 : Fr All wB W8 := by
            rw [← hW8]
            exact (Fr.refl _ _).drewN _
          have H8 := Lib.hid (H7.out.all F8)
          have R8 := Lib.hid (R7.out.all F8)
          obtain ⟨M, hM⟩ : ∃ M, min (q7.blocks + 1) 14 = M := ⟨_, rfl⟩
          have hM2 : M ≤ 14 := by omega
          have hbw : IntKind.i64.wrap (q7.blocks + 1) = q7.blocks + 1 := IntWalk.i64_in _ (by have := K7.out.b0; have := K7.out.b1; rw [K7.out.mt.blocks] at *; omega)
          clear hW8 F8 HBN HPN HCN HDN HCX ne0 ne1 ne2 ne3 ne4 d0 d1 d2 d3 d4 d5 dz H7 R7
          go_wp2_with fail
          go_loopw [14] (fun k wr2 => ∃ z : Int, k = .int .i64 z ∧ -1 ≤ z ∧ z ≤ 14 ∧ Hid (Held w1 wr2 B bs bp s7) ∧ Hid (Rk (Off B bs bp) wr2 R q7)) (fun k _ => (M - intOf k).toNat)
          case atStart => exact ⟨-1, rfl, by omega, by omega, H8, R8⟩
          case round =>
            obtain ⟨z, rfl, hz0, hz1, HH2, HR2⟩ := hrel
            obtain ⟨KA8, kc8, PA8, pc8, hb8, _, _⟩ := HR2.out
            obtain ⟨d0, d1, d2, d3, d4, d5, dz⟩ := blk6 hb8
            clear hb8
            by_cases hlt2 : z < M
            · have b2 : decide (z < M) = true := decide_eq_true hlt2
              go_wp2_with fail
              refine (d_read HH2.out HQ.out z K7.out.b1 (fun xs hx => by have := K7.out.small hx; omega)).mono ?_
              rintro e w9 ⟨A9, n9, c9, xs9, z9, rfl, hz9, hx9, s9, h9, f9⟩
              rw [K7.out.mt.rget z] at hx9 ⊢
              rw [K7.out.mt.rcode z] at hz9
              have hxl := K7.out.rsmall z
              rw [← hx9] at hxl
              obtain ⟨bb, hbb⟩ : ∃ bb, (q7.rget z).isSome = bb := ⟨_, rfl⟩
              rw [hbb]
              have Z9 := Lib.hid hz9
              have X9 := Lib.hid hx9
              have S9 := Lib.hid s9
              have H9 := Lib.hid h9
              have R9 := Lib.hid (HR2.out.all f9)
              have HBB := Lib.hid hbb
              clear hz9 hx9 s9 h9 f9 hbb d0 d1 d2 d3 d4 d5 dz
              go_wp2_with fail
              refine (r_read R9.out z (by have := K7.out.rn; omega)).mono ?_
              rintro e wn ⟨A10, n10, c10, xs10, rfl, hx10, s10, hwn⟩
              obtain rfl := hwn.symm
              rw [HBB.out]
              obtain rfl : xs9 = xs10 := X9.out.trans hx10.symm
              have S10 := Lib.hid s10
              have hdd : decide (xs9 = xs9) = true := decide_eq_true rfl
              clear hx10 s10
              go_wp2_with fail
              refine (same_bytes S9.out S10.out (by omega)).mono ?_
              rintro e w11 ⟨rfl, f11⟩
              have H11 := Lib.hid (H9.out.all f11)
              have R11 := Lib.hid (R9.out.all f11)
              clear f11
              go_wp2_with fail
              refine (see_is (Z9.out.move H11.out.fr) (q7.rcode z)).mono ?_
              rintro e w12 ⟨rfl, f12⟩
              have H12 := Lib.hid (H11.out.all f12)
              have R12 := Lib.hid (R11.out.all f12)
              clear f12
              go_wp2_with fail
              go_roundw
              case rel => exact ⟨z + 1, by go_num, by omega, by omega, H12, R12⟩
              case measure => simp [intOf]; omega
            · have b2 : decide (z < M) = false := decide_eq_false hlt2
              go_wp2_with fail
              go_roundw
              case rel => exact ⟨j + 1, s7, q7, by omega, by go_num, K7, HH2, HR2⟩
              case measure => simp [intOf]; omega
      · obtain rfl : j = ln := by omega
        go_wp2_with fail
        go_ret
        exact ⟨rfl, f1.trans HH.out.fr⟩
end Go.Proofs.YteikddopeplomaaDoor
