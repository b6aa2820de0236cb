/- The document's Reader.Bytes. -/
import Derived.Test.YtoaamcpiljoojaaDoorDNum
import Derived.Deep.QuietTactic
import Derived.BigQuiet
import Derived.Deep.RegionHeld3
import Derived.Deep.Cut
namespace Go.Proofs.YtoaamcpiljoojaaDoor
open Go.RowKit

section
variable {w0 : World} {R n c pos : Nat} {bs : List UInt8} {A : Option Addr} {w : World} {er : Option (Nat × Nat)}
theorem dr_num' (h : Dr w0 R bs A n c w pos er) (low high : Int) :
    Calls Tryd.prog 94 #[.pointer (some ⟨R, 0, none⟩), .int .i64 low, .int .i64 high] w fun e w' => ∃ v p er', e = .returned (.int .i64 v) ∧ Hid (stNum low high bs (pos, er) = (v, p, er')) ∧ Hid (Dr w0 R bs A n c w' p er') ∧ Fr (fun b => b ≠ R) w w' :=
  (dr_num h low high).mono fun _ _ ⟨h1, h2, h3⟩ => ⟨_, _, _, h1, rfl, h2, h3⟩
theorem stBytes_bad (most : Int) (bs : List UInt8) {s : Nat × Option (Nat × Nat)} {p : Nat} {x : Nat × Nat} {v : Int} (h : stNum 0 most bs s = (v, p, some x)) : stBytes most bs s = ([], p, some x) := by
  unfold stBytes
  rw [h]

set_option hygiene false in
set_option maxRecDepth 100000 in
set_option maxHeartbeats 2000000 in
theorem dr_bytes (h : Dr w0 R bs A n c w pos er) (most : Int) :
    Calls Tryd.prog 95 #[.pointer (some ⟨R, 0, none⟩), .int .i64 most] w fun e w' => ∃ A' m' c' zs p er', e = .returned (.slice A' m' c') ∧ Hid (stBytes most bs (pos, er) = (zs, p, er')) ∧ Sl kByte (fun b => w.heap.size ≤ b) w' (.slice A' m' c') zs ∧ Hid (Dr w0 R bs A n c w' p er') ∧ Fr (fun b => b ≠ R) w w' := by
  have H := Lib.hid h
  have k1 := h.k1
  cases er with
  | some x =>
    have es : stBytes most bs (pos, some x) = ([], pos, some x) := stBytes_bad most bs rfl
    have Es := Lib.hid es
    clear h es
    go_enter Tryd.func95, Tryd.ntmps95
    go_wp2_with fail
    refine (dr_ok H.out).mono ?_
    rintro e wn ⟨rfl, hwn⟩
    obtain rfl := hwn.symm
    clear hwn
    go_wp2_with fail
    go_ret
    exact ⟨none, 0, 0, [], pos, some x, rfl, Es, Sl.nil_ _ _ _, H, Fr.refl _ _⟩
  | none =>
    have Hnn := Lib.hid (stNum_none (bs := bs) (low := 0) (high := most) (s := (pos, none)))
    clear h
    go_enter Tryd.func95, Tryd.ntmps95
    go_wp2_with fail
    refine (dr_ok H.out).mono ?_
    rintro e wn ⟨rfl, hwn⟩
    obtain rfl := hwn.symm
    clear hwn
    go_wp2_with fail
    refine (dr_num' H.out 0 most).mono ?_
    rintro e w1 ⟨v, p1, er1, rfl, S1, H1, f1⟩
    have hq : ∀ m, Calls Tryd.prog 63 #[.pointer (some ⟨R, 0, none⟩)] (w1.drewN m) fun e w' => e = .returned (.bool er1.isNone) ∧ w' = w1.drewN m := fun m => dr_ok (H1.out.move ((Fr.refl _ _).drewN m))
    cases er1 with
    | some x =>
      have es := stBytes_bad most bs S1.out
      have Es := Lib.hid es
      have HQ : Hid (∀ m, Calls Tryd.prog 63 #[.pointer (some ⟨R, 0, none⟩)] (w1.drewN m) fun e w' => e = .returned (.bool false) ∧ w' = w1.drewN m) := Lib.hid hq
      clear hq es k1
      go_wp2_with fail
      go_quiet (first | (go_at_call 63; exact Calls.quiet_of_same (HQ.out _)))
      generalize hW : w1.drewN _ = w2
      have f2 : Fr All w1 w2 := by rw [← hW]; exact (Fr.refl _ _).drewN _
      have H2 := Lib.hid (H1.out.move f2)
      clear hW HQ
      go_wp2_with fail
      refine (dr_ok H2.out).mono ?_
      rintro e wn ⟨rfl, hwn⟩
      obtain rfl := hwn.symm
      clear hwn
      go_wp2_with fail
      go_ret
      exact ⟨none, 0, 0, [], p1, some x, rfl, Es, Sl.nil_ _ _ _, H2, f1.trans (f2.mono fun _ _ => trivial)⟩
    | none =>
      obtain ⟨_, hv0, hv1, hp1, hp2, _⟩ := Hnn.out (by rw [S1.out])
      rw [S1.out] at hv0 hv1 hp1 hp2
      dsimp only at hv0 hv1 hp1 hp2
      have hb := H1.out.len
      have hp3 := H1.out.pos_le
      have hn6 := H1.out.small
      have hp0 := H.out.pos_le
      have r0 := H1.out.k0
      have r1 := H1.out.k1
      obtain ⟨m, rfl⟩ := Int.eq_ofNat_of_zero_le hv0
      have hws : IntKind.i64.wrap ((n : Int) - (p1 : Int)) = (n : Int) - (p1 : Int) := IntWalk.i64_in _ (by omega)
      have HQ : Hid (∀ m, Calls Tryd.prog 63 #[.pointer (some ⟨R, 0, none⟩)] (w1.drewN m) fun e w' => e = .returned (.bool true) ∧ w' = w1.drewN m) := Lib.hid hq
      clear hq hv0 hv1 hp1 hp2 k1
      by_cases hgt : n - p1 < m
      · have hd : decide ((n : Int) - (p1 : Int) < (m : Int)) = true := decide_eq_true (by omega)
        have es : stBytes most bs (pos, none) = ([], pos, some (0, pos)) := by
          unfold stBytes
          rw [S1.out]
          simp only
          rw [if_pos (by rw [hb]; omega)]
        have Es := Lib.hid es
        have Hb := Lib.hid hb
        clear es hb
        go_wp2_with fail
        go_quiet (first | (go_at_call 63; exact Calls.quiet_of_same (HQ.out _)))
        generalize hW : w1.drewN _ = w2
        have f2 : Fr All w1 w2 := by rw [← hW]; exact (Fr.refl _ _).drewN _
        have H2 := Lib.hid (H1.out.move f2)
        clear hW HQ r0 r1
        go_wp2_with fail
        refine (dr_fail (x := 0) (at' := pos) H2.out hp0).mono ?_
        rintro e w3 ⟨rfl, h3, f3⟩
        have H3 := Lib.hid h3
        clear h3
        go_wp2_with fail
        refine (dr_ok H3.out).mono ?_
        rintro e wn ⟨rfl, hwn⟩
        obtain rfl := hwn.symm
        clear hwn
        go_wp2_with fail
        go_ret
        exact ⟨none, 0, 0, [], pos, some (0, pos), rfl, Es, Sl.nil_ _ _ _, H3, (f1.trans (f2.mono fun _ _ => trivial)).trans f3⟩
      · have hd : decide ((n : Int) - (p1 : Int) < (m : Int)) = false := decide_eq_false (by omega)
        have es : stBytes most bs (pos, none) = ((bs.drop p1).take m, p1 + m, none) := by
          unfold stBytes
          rw [S1.out]
          simp only
          rw [if_neg (by rw [hb]; omega)]
          rfl
        have Es := Lib.hid es
        have Hb := Lib.hid hb
        clear es hb
        go_wp2_with fail
        go_quiet (first | (go_at_call 63; exact Calls.quiet_of_same (HQ.out _)))
        generalize hW : w1.drewN _ = w2
        have f2 : Fr All w1 w2 := by rw [← hW]; exact (Fr.refl _ _).drewN _
        have H2 := Lib.hid (H1.out.move f2)
        clear hW HQ r0 r1
        go_wp2_with fail
        refine (dr_ok H2.out).mono ?_
        rintro e wn ⟨rfl, hwn⟩
        obtain rfl := hwn.symm
        clear hwn
        have q1 := H2.out.k1
        have qz := H2.out.kz
        have hw : IntKind.i64.wrap ((p1 : Int) + (m : Int)) = (p1 : Int) + (m : Int) := IntWalk.i64_in _ (by omega)
        obtain ⟨h3, f3⟩ := H2.out.setPos (p2 := p1 + m) (by omega) (v := .int .i64 ((p1 : Int) + (m : Int))) (by rw [Int.natCast_add])
        have H3 := Lib.hid h3
        clear h3
        go_upto_region 10 with (fail)
        refine wp_name ?_
        intro W hW
        rw [← hW] at f3 H3
        have k0 := H3.out.k0
        have k1w := H3.out.k1
        have FR : Fr (fun b => b ≠ R) w W := (f1.trans (f2.mono fun _ _ => trivial)).trans f3
        clear hW q1 qz f1 f2 f3
        have hcap : n ≤ c := by
          obtain ⟨_, _, _, he, _, hnc, _⟩ := H3.out.sl.open_
          injection he with _ hn hc
          omega
        obtain ⟨P, hP⟩ : ∃ P, (if c = p1 then A else A.map fun a => a.add p1) = P := ⟨_, rfl⟩
        have hS := (H3.out.sl.take (s := p1 + m) (by omega)).drop (s := p1) (by omega)
        rw [show p1 * kByte.sz = p1 from Nat.mul_one p1, hP, show p1 + m - p1 = m by omega, List.drop_take, show p1 + m - p1 = m by omega] at hS
        obtain ⟨t, ht⟩ : ∃ t, p1 + m = t := ⟨_, rfl⟩
        rw [ht] at k1w H3
        have hw2 : IntKind.i64.wrap ((t : Int) - (m : Int)) = (p1 : Int) := by rw [IntWalk.i64_in _ (by omega)]; omega
        have b0 : (0 : Int) ≤ (p1 : Int) := by omega
        have b1 : (p1 : Int) ≤ (t : Int) := by omega
        have b2 : (t : Int) ≤ (c : Int) := by omega
        have b3 : p1 ≤ t := by omega
        have b4 : t ≤ c := by omega
        have b5 : t - p1 = m := by omega
        have Ht := Lib.hid ht
        clear ht hw
        obtain ⟨zs, hz⟩ : ∃ zs, (bs.drop p1).take m = zs := ⟨_, rfl⟩
        have hzl : zs.length = m := by
          have hb := Hb.out
          rw [← hz, List.length_take, List.length_drop]
          omega
        rw [hz] at hS Es
        have HS := Lib.hid hS
        clear hS hz
        go_region_held3 (fun w' => w'.cell? ⟨R, 0, none⟩ = some (.slice A n c) ∧ w'.cell? ⟨R, 1, none⟩ = some (.int .i64 (t : Int)))
          (first | go_keep | (go_split_ands; refine ⟨?_, ?_⟩ <;> exact Fr.cell (by assumption) trivial (by assumption)))
          (first
            | (go_at_call 85; refine (ref_bytes (HS.out.all (Fr.refl All _).drew) (by omega)).mono ?_; rintro e w3 ⟨A3, rfl, o3, f4⟩))
        go_wp2_with fail
        go_ret
        obtain ⟨A4, c4, rfl⟩ := o3.length
        rw [Ht.out] at Es
        exact ⟨_, _, _, zs, t, none, rfl, Es, (o3.plain_in fun _ hb _ => (Nat.le_trans (Nat.le_trans FR.size (Fr.refl All W).drew.size) hb)), Lib.hid (H3.out.move ((Fr.refl All W).drew.trans f4)), FR.trans (((Fr.refl All W).drew.trans f4).mono fun _ _ => trivial)⟩
end
end Go.Proofs.YtoaamcpiljoojaaDoor
