/- The reader: Left, Err, At, Bool, NewReader, Bytes. -/
import Derived.Test.YteclgcnndjcmmaaDoorReader
import Derived.Test.YteclgcnndjcmmaaDoorClone
import Derived.Test.YteclgcnndjcmmaaDoorCutting
import Derived.Deep.RegionHeld3
import Derived.Deep.Cut
namespace Go.Proofs.YteclgcnndjcmmaaDoor
open Go.RowKit

section
variable {w0 : World} {qs : List Addr} {R n c pos : Nat} {bs : List UInt8} {A : Option Addr} {w w' : World} {er : Option (Nat × Nat)} {ev : Value}
theorem left_call (h : Rd w0 qs R bs A n c w pos er ev) : Calls Tryd.prog 69 #[.pointer (some ⟨R, 0, none⟩)] w fun e w' => e = .returned (.int .i64 ((n : Int) - (pos : Int))) ∧ ∃ q, w' = w.drewN q := by
  have k0 := h.k0
  have k1 := h.k1
  have h1 := h.small
  have h2 := h.pos_le
  have hw : IntKind.i64.wrap ((n : Int) - (pos : Int)) = (n : Int) - (pos : Int) := IntWalk.i64_in _ (by omega)
  clear h
  go_enter Tryd.func69, Tryd.ntmps69
  go_wp2_with fail
  go_quiet (fail)
  go_wp2_with fail
  go_ret
  exact ⟨rfl, _, rfl⟩
theorem err_call (h : Rd w0 qs R bs A n c w pos er ev) : Calls Tryd.prog 67 #[.pointer (some ⟨R, 0, none⟩)] w fun e w' => e = .returned ev ∧ w' = w := by
  have k2 := h.k2
  clear h
  go_enter Tryd.func67, Tryd.ntmps67
  go_wp2_with fail
  go_ret
  exact ⟨rfl, rfl⟩
theorem bool_call (h : Rd w0 qs R bs A n c w pos er ev) : Calls Tryd.prog 65 #[.pointer (some ⟨R, 0, none⟩)] w fun e w' => e = .returned (.bool (decide ((stNum 0 1 bs (pos, er)).1 = 1))) ∧ RdTo w0 qs R bs A n c w (stNum 0 1 bs (pos, er)).2 w' := by
  obtain ⟨st, hst⟩ : ∃ st, stNum 0 1 bs (pos, er) = st := ⟨_, rfl⟩
  have hN := num_call h 0 1
  rw [hst] at hN ⊢
  have HN := Lib.hid hN
  clear hst hN h
  go_enter Tryd.func65, Tryd.ntmps65
  go_wp2_with fail
  refine HN.out.mono ?_
  rintro e w1 ⟨rfl, ev1, h1, f1⟩
  have H1 := Lib.hid h1
  clear h1
  go_wp2_with fail
  go_ret
  exact ⟨ret_bool (by rw [Bool.eq_iff_iff]; simp), ev1, H1.out, f1⟩
theorem new_reader {v : Value} {S : Nat → Prop} (he : Errs w qs) (h : Sl kByte S w v bs) (hn : bs.length ≤ 1000000) :
    Calls Tryd.prog 63 #[v] w fun e w' => ∃ R A c, e = .returned (.pointer (some ⟨R, 0, none⟩)) ∧ Rd w qs R bs A bs.length c w' 0 none .nilIface := by
  obtain ⟨A, m, c, rfl, em, _⟩ := h.open_
  subst em
  go_enter Tryd.func63, Tryd.ntmps63
  go_wp2_with fail
  refine (clone_bytes h (by omega)).mono ?_
  rintro e w1 ⟨A1, c1, rfl, o1, f1⟩
  go_wp2_with fail
  go_ret
  have B := heap_alloc_new w1 (.cells #[.slice A1 bs.length c1, .int .i64 0, .nilIface] 138)
  have F := (Fr.refl All w1).alloc (.cells #[.slice A1 bs.length c1, .int .i64 0, .nilIface] 138)
  obtain ⟨b0, b1, b2, bz⟩ := blk3 B
  have hs : Sl kByte (fun b => b ≠ w1.heap.size) w1 (.slice A1 bs.length c1) bs := o1.plain_in fun b _ hb => by omega
  exact ⟨w1.heap.size, A1, c1, rfl, he, f1.trans F, f1.size, blk_lt B, b0, b1, b2, bz, hs.all F, hn, Nat.zero_le _, rfl⟩
end

/-- What Bytes does. -/
def stBytes (most : Int) (bs : List UInt8) (s : Nat × Option (Nat × Nat)) : List UInt8 × Nat × Option (Nat × Nat) :=
  match (stNum 0 most bs s).2.2 with
  | some e => ([], (stNum 0 most bs s).2.1, some e)
  | none => if ((bs.length - (stNum 0 most bs s).2.1 : Nat) : Int) < (stNum 0 most bs s).1 then ([], s.1, some (0, s.1)) else ((bs.drop (stNum 0 most bs s).2.1).take (stNum 0 most bs s).1.toNat, (stNum 0 most bs s).2.1 + (stNum 0 most bs s).1.toNat, none)

section
variable {w0 : World} {qs : List Addr} {R n c pos : Nat} {bs : List UInt8} {A : Option Addr} {w w' : World} {er : Option (Nat × Nat)} {ev : Value}
theorem stNum_none {low high : Int} {s : Nat × Option (Nat × Nat)} (h : (stNum low high bs s).2.2 = none) : s.2 = none ∧ low ≤ (stNum low high bs s).1 ∧ (stNum low high bs s).1 ≤ high ∧ s.1 ≤ (stNum low high bs s).2.1 ∧
    (s.1 ≤ bs.length → (stNum low high bs s).2.1 ≤ bs.length) ∧ (bs.drop s.1).take ((stNum low high bs s).2.1 - s.1) = vint (zig (stNum low high bs s).1) := by
  obtain ⟨p, er⟩ := s
  cases er with
  | some e => simp [stNum] at h
  | none =>
    cases hres : numGo (bs.drop p) 0 0 with
    | error x => simp [stNum, hres] at h
    | ok x =>
      obtain ⟨z, k⟩ := x
      by_cases hc : zag z < low ∨ high < zag z
      · simp [stNum, hres, hc] at h
      · obtain ⟨m, h1, h2, h3, h4, _⟩ := numGo_ok _ _ _ _ _ hres
        have e : stNum low high bs (p, none) = (zag z, p + k, none) := by simp [stNum, hres, hc]
        rw [e]
        have hm : m = z := by simpa using h1.symm
        subst hm
        refine ⟨rfl, by omega, by omega, by simp, fun hp => ?_, ?_⟩
        · rw [List.length_drop] at h3
          show p + k ≤ bs.length
          omega
        · show (bs.drop p).take (p + k - p) = _
          rw [zig_zag, ← h4]
          congr 1
          omega

set_option maxRecDepth 100000 in
set_option maxHeartbeats 1000000 in
theorem bytes_call (h : Rd w0 qs R bs A n c w pos er ev) (most : Int) :
    Calls Tryd.prog 89 #[.pointer (some ⟨R, 0, none⟩), .int .i64 most] w fun e w' => ∃ A' m' c', e = .returned (.slice A' m' c') ∧ Own kByte 5 w.heap.size All w' (.slice A' m' c') (stBytes most bs (pos, er)).1 ∧ RdTo w0 qs R bs A n c w (stBytes most bs (pos, er)).2 w' := by
  obtain ⟨st, hst⟩ : ∃ st, stNum 0 most bs (pos, er) = st := ⟨_, rfl⟩
  have hN := num_call h 0 most
  rw [hst] at hN
  have hnn := stNum_none (bs := bs) (low := 0) (high := most) (s := (pos, er))
  rw [hst] at hnn
  obtain ⟨sb, hsb⟩ : ∃ sb, stBytes most bs (pos, er) = sb := ⟨_, rfl⟩
  rw [hsb]
  have Hsb := Lib.hid hsb
  have Hst := Lib.hid hst
  have HN := Lib.hid hN
  have Hnn := Lib.hid hnn
  have H := Lib.hid h
  have k1 := h.k1
  clear hst hN h hsb hnn
  go_enter Tryd.func89, Tryd.ntmps89
  go_wp2_with fail
  refine HN.out.mono ?_
  rintro e w1 ⟨rfl, ev1, h1, f1⟩
  obtain ⟨v, p1, er1⟩ := st
  dsimp only at h1 ⊢
  have H1 := Lib.hid h1
  have k2 := h1.k2
  cases er1 with
  | some x =>
    obtain ⟨a, b, _, _, _, rfl, _⟩ := h1.err
    have es : sb = ([], p1, some x) := by
      rw [← Hsb.out]
      unfold stBytes
      rw [Hst.out]
    have Es := Lib.hid es
    clear h1 es
    go_wp2_with fail
    go_ret
    rw [Es.out]
    exact ⟨none, 0, 0, rfl, Own.nil_ _ _ _ _ _, _, H1.out, f1⟩
  | none =>
    obtain rfl : ev1 = .nilIface := h1.err
    obtain ⟨_, hv0, hv1, hp1, hp2, _⟩ := Hnn.out rfl
    have hb := H1.out.len
    have hp3 := h1.pos_le
    have hn6 := h1.small
    obtain ⟨m, rfl⟩ := Int.eq_ofNat_of_zero_le hv0
    by_cases hgt : n - p1 < m
    · have hd : decide ((m : Int) > (n : Int) - (p1 : Int)) = true := decide_eq_true (by omega)
      have es : sb = ([], pos, some (0, pos)) := by
        rw [← Hsb.out]
        unfold stBytes
        rw [Hst.out]
        simp only
        rw [if_pos (by rw [hb]; omega)]
      have Es := Lib.hid es
      clear h1 es hp2
      go_wp2_with fail
      refine (left_call H1.out).mono ?_
      rintro e w2 ⟨rfl, q, hw2⟩
      have f2 : Fr All w1 w2 := by rw [hw2]; exact (Fr.refl _ _).drewN _
      have h2 := H1.out.move f2
      have H2 := Lib.hid h2
      have k1' := h2.k1
      have kz' := h2.kz
      obtain ⟨aE, qE, gE⟩ := (h2.errs.move h2.fr).at 0 "sextet/api.ErrEnd" 8 rfl (by kernel_rfl)
      have HE := Lib.hid qE
      unfold errV at gE
      have hg : 8 ≠ R := by
        have := h2.new
        have hb : 8 < w0.heap.size := by
          obtain ⟨a, _, ga⟩ := h2.errs.at 0 "sextet/api.ErrEnd" 8 rfl (by kernel_rfl)
          exact World.block_lt_of_cell? w0 ⟨8, 0, none⟩ ga
        omega
      clear hw2 h2 qE
      have hp0 := H.out.pos_le
      obtain ⟨h3, f3⟩ := H2.out.setPos hp0 (v := .int .i64 (pos : Int)) rfl
      have H3 := Lib.hid h3
      clear h3
      go_wp2_with fail
      refine (fail_call H3.out HE.out).mono ?_
      rintro e w4 ⟨rfl, ev4, h4, f4⟩
      have H4 := Lib.hid h4
      clear h4
      go_wp2_with fail
      go_ret
      rw [Es.out]
      exact ⟨none, 0, 0, rfl, Own.nil_ _ _ _ _ _, ev4, H4.out, ((f1.trans (f2.mono fun _ _ => trivial)).trans f3).trans f4⟩
    · have hd : decide ((m : Int) > (n : Int) - (p1 : Int)) = false := decide_eq_false (by omega)
      have es : sb = ((bs.drop p1).take m, p1 + m, none) := by
        rw [← Hsb.out]
        unfold stBytes
        rw [Hst.out]
        simp only
        rw [if_neg (by rw [hb]; omega)]
        rfl
      have Es := Lib.hid es
      clear h1 es hp2
      go_wp2_with fail
      refine (left_call H1.out).mono ?_
      rintro e w2 ⟨rfl, q, hw2⟩
      have f2 : Fr All w1 w2 := by rw [hw2]; exact (Fr.refl _ _).drewN _
      have h2 := H1.out.move f2
      have H2 := Lib.hid h2
      have k1' := h2.k1
      have kz' := h2.kz
      have hw : IntKind.i64.wrap ((p1 : Int) + (m : Int)) = (p1 : Int) + (m : Int) := IntWalk.i64_in _ (by omega)
      obtain ⟨h3, f3⟩ := H2.out.setPos (p2 := p1 + m) (by omega) (v := .int .i64 ((p1 : Int) + (m : Int))) (by rw [Int.natCast_add])
      have H3 := Lib.hid h3
      clear hw2 h2 h3
      go_upto_region 10 with (fail)
      refine wp_name ?_
      intro W hW
      rw [← hW] at f3 H3
      have k0 := H3.out.k0
      have k1w := H3.out.k1
      have FR : Fr (fun b => b ≠ R) w W := (f1.trans (f2.mono fun _ _ => trivial)).trans f3
      clear hW k1' kz' k1 k2 f1 f2 f3
      have hcap : n ≤ c := by
        obtain ⟨_, _, _, he, _, hnc, _⟩ := H3.out.sl.open_
        injection he with _ hn hc
        omega
      obtain ⟨P, hP⟩ : ∃ P, (if c = p1 then A else A.map fun a => a.add p1) = P := ⟨_, rfl⟩
      have hS := (H3.out.sl.take (s := p1 + m) (by omega)).drop (s := p1) (by omega)
      rw [show p1 * kByte.sz = p1 from Nat.mul_one p1, hP, show p1 + m - p1 = m by omega, List.drop_take, show p1 + m - p1 = m by omega] at hS
      obtain ⟨t, ht⟩ : ∃ t, p1 + m = t := ⟨_, rfl⟩
      rw [ht] at k1w H3
      have hw2 : IntKind.i64.wrap ((t : Int) - (m : Int)) = (p1 : Int) := by rw [IntWalk.i64_in _ (by omega)]; omega
      have b0 : (0 : Int) ≤ (p1 : Int) := by omega
      have b1 : (p1 : Int) ≤ (t : Int) := by omega
      have b2 : (t : Int) ≤ (c : Int) := by omega
      have b3 : p1 ≤ t := by omega
      have b4 : t ≤ c := by omega
      have b5 : t - p1 = m := by omega
      have Ht := Lib.hid ht
      clear ht hw
      obtain ⟨zs, hz⟩ : ∃ zs, (bs.drop p1).take m = zs := ⟨_, rfl⟩
      have hzl : zs.length = m := by
        rw [← hz, List.length_take, List.length_drop]
        omega
      rw [hz] at hS Es
      have HS := Lib.hid hS
      clear hS hz
      go_region_held3 (fun w' => w'.cell? ⟨R, 0, none⟩ = some (.slice A n c) ∧ w'.cell? ⟨R, 1, none⟩ = some (.int .i64 (t : Int)))
        (first | go_keep | (go_split_ands; refine ⟨?_, ?_⟩ <;> exact Fr.cell (by assumption) trivial (by assumption)))
        (first
          | (go_at_call 40; refine (clone_bytes (HS.out.all (Fr.refl All _).drew) (by omega)).mono ?_; rintro e w3 ⟨A3, c3, rfl, o3, f4⟩))
      go_wp2_with fail
      go_ret
      rw [Es.out]
      exact ⟨_, _, _, rfl, hzl ▸ (o3.lower (Nat.le_trans FR.size (Fr.refl All W).drew.size)), _, (Ht.out ▸ H3.out).move ((Fr.refl All W).drew.trans f4), FR.trans (((Fr.refl All W).drew.trans f4).mono fun _ _ => trivial)⟩
end
end Go.Proofs.YteclgcnndjcmmaaDoor
