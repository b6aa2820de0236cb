/- page.Bytes. -/
import Derived.Test.YtoaamcpiljoojaaDoorPVal
import Derived.Test.YtoaamcpiljoojaaDoorPClone
namespace Go.Proofs.YtoaamcpiljoojaaDoor
open Go.RowKit

/-- The bytes of a right page; of a wrong one none. -/
def pgB (p : Page) : List UInt8 := if pageIx p = none then pageBytes p else []
theorem pageNums_small {p : Page} (ok : pageIx p = none) : ∀ n ∈ pageNums p, -1 ≤ n ∧ n < 4611686018427387904 := by
  obtain ⟨hv, h8, hs⟩ := pageIx_none ok
  intro n hn
  simp only [pageNums, List.mem_cons, List.not_mem_nil, or_false] at hn
  rcases hn with rfl | rfl | rfl | rfl | rfl <;> omega
theorem vints_len' (l : List Int) (h : ∀ n ∈ l, -1 ≤ n ∧ n < 4611686018427387904) : (vints l).length ≤ 9 * l.length := by
  induction l with
  | nil => simp [vints]
  | cons n l ih =>
    have h1 := ih fun x hx => h x (List.mem_cons_of_mem _ hx)
    have h2 := h n List.mem_cons_self
    have h3 := vint_len 9 (zig n) (by decide) (by simp only [zig]; split <;> omega)
    simp only [vints, List.flatMap_cons, List.length_append, List.length_cons] at h1 ⊢
    omega
theorem entsBytes_short (l : List Ent) (h : ∀ e ∈ l, e.key.length ≤ 32 ∧ e.val.length ≤ 64) : (entsBytes l).length ≤ 120 * l.length := by
  induction l with
  | nil => simp [entsBytes]
  | cons e l ih =>
    have h1 := ih fun x hx => h x (List.mem_cons_of_mem _ hx)
    have h2 := h e List.mem_cons_self
    have k1 := vint_len 9 (zig e.key.length) (by decide) (by simp only [zig]; split <;> omega)
    have k2 := vint_len 9 (zig e.val.length) (by decide) (by simp only [zig]; split <;> omega)
    simp only [entsBytes, entBytes, bytesOf, List.flatMap_cons, List.length_append, List.length_cons] at h1 ⊢
    omega
theorem entsBytes_snoc {l : List Ent} {k : Nat} {x : Ent} (h : l[k]? = some x) : entsBytes (l.take (k + 1)) = entsBytes (l.take k) ++ entBytes x := by
  rw [take_snoc h]
  simp [entsBytes]

set_option hygiene false in
set_option maxRecDepth 100000 in
set_option maxHeartbeats 4000000 in
theorem page_bytes {qs : List Addr} {w : World} {p : Page} {v : Value} {S : Nat → Prop} (he : Errs w qs) (h : Sl kEnt S w v p.ents) :
    Calls Tryd.prog 19 #[.agg #[.int .i64 p.id, .int .i64 p.lsn, .int .i64 p.level, .int .i64 p.next, v]] w
      fun e w' => ∃ (zs : List UInt8) (A' : Option Addr) (c' : Nat), e = .returned (.tuple #[.slice A' zs.length c', errAt qs (pageIx p)]) ∧ Hid (zs = pgB p) ∧ Own kByte 5 w.heap.size All w' (.slice A' zs.length c') zs ∧ Fr All w w' := by
  obtain ⟨A, n, c, rfl, en, _⟩ := h.open_
  have B := heap_alloc_new w (.cells #[.int .i64 p.id, .int .i64 p.lsn, .int .i64 p.level, .int .i64 p.next, .slice A n c] 39)
  have F0 := (Fr.refl All w).alloc (.cells #[.int .i64 p.id, .int .i64 p.lsn, .int .i64 p.level, .int .i64 p.next, .slice A n c] 39)
  have En := Lib.hid en
  obtain ⟨ee, hee⟩ : ∃ ee, errAt qs (pageIx p) = ee := ⟨_, rfl⟩
  have hv := page_valid_ix (p := p) (he.move F0) (h.all F0)
  rw [hee] at hv ⊢
  have HV := Lib.hid hv
  have Hee := Lib.hid hee
  have HE := Lib.hid he
  have Hs := Lib.hid h
  obtain ⟨p0, p1, p2, p3, p4, pz⟩ := blk5 B
  clear he h en hv hee
  go_enter Tryd.func19, Tryd.ntmps19
  go_wp2_with fail
  refine HV.out.mono ?_
  rintro e w1 ⟨rfl, f1⟩
  have B1 := (f1.block w.heap.size (blk_lt B) trivial).trans B
  have F1 := F0.trans f1
  clear p0 p1 p2 p3 p4 pz
  obtain ⟨p0, p1, p2, p3, p4, pz⟩ := blk5 B1
  cases hix : pageIx p with
  | some k =>
    obtain ⟨a, rfl⟩ : ∃ a, ee = .iface 175 (.pointer (some a)) := by
      have hk : k < 17 := by
        unfold pageIx at hix
        split at hix
        · obtain rfl := Option.some.inj hix; decide
        split at hix
        · obtain rfl := Option.some.inj hix; decide
        split at hix
        · obtain rfl := Option.some.inj hix; decide
        · cases hix
      have hq : k < qs.length := by have := HE.out.len; omega
      exact ⟨qs[k], by rw [← Hee.out, hix, errAt_is (List.getElem?_eq_getElem hq)]; rfl⟩
    have Hix := Lib.hid hix
    clear hix
    go_wp2_with fail
    go_ret2
    exact ⟨[], none, 0, rfl, Lib.hid (by unfold pgB; rw [if_neg (by rw [Hix.out]; simp)]), Own.nil_ _ _ _ _ _, F1⟩
  | none =>
    obtain rfl : ee = .nilIface := by rw [← Hee.out, hix]; rfl
    have Hix := Lib.hid hix
    have Hsm := Lib.hid (pageNums_small hix)
    obtain ⟨_, h8, hsh⟩ := pageIx_none hix
    rw [En.out] at h8
    have Hsh := Lib.hid hsh
    have hN := Sl.ints5 w1 p.id p.lsn p.level p.next n 2
    have FN := F1.alloc (.cells #[.int .i64 p.id, .int .i64 p.lsn, .int .i64 p.level, .int .i64 p.next, .int .i64 n] 2)
    have BN := ((Fr.refl All w1).alloc (.cells #[.int .i64 p.id, .int .i64 p.lsn, .int .i64 p.level, .int .i64 p.next, .int .i64 n] 2)).block w.heap.size (blk_lt B1) trivial |>.trans B1
    have hpn : pageNums p = [p.id, p.lsn, p.level, p.next, (n : Int)] := by rw [← En.out]; rfl
    rw [← hpn] at hN
    clear hix hsh hpn
    go_wp2_with fail
    refine wp_name ?_
    intro W hW
    rw [← hW] at hN FN BN
    have HN := Lib.hid hN
    go_loopw [5, 28] (fun b i wr => ∃ (k : Nat) (zs : List UInt8), k ≤ 5 ∧ i = .int .i64 k ∧ Hid (zs = vints ((pageNums p).take k)) ∧ Own kByte 5 w.heap.size All wr b zs ∧ Fr All W wr) (fun _ i _ => 5 - (intOf i).toNat)
    case atStart => exact ⟨0, [], Nat.zero_le _, rfl, (rfl : [] = vints ((pageNums p).take 0)), Own.nil_ _ _ _ _ _, Fr.refl _ _⟩
    case round =>
      clear hW p0 p1 p2 p3 p4 pz
      obtain ⟨k, zs, hk, rfl, HZ, HO, HF⟩ := hrel
      have hl8 : (pageNums p).length = 5 := rfl
      obtain ⟨A', c', rfl⟩ := HO.length
      have hlen : zs.length ≤ 45 := by
        rw [HZ.out]
        have := vints_len' ((pageNums p).take k) (fun n hn => Hsm.out n (List.mem_of_mem_take hn))
        rw [List.length_take] at this
        omega
      by_cases hlt : k < 5
      · obtain ⟨x, hx, hmem⟩ := get_of (l := pageNums p) (k := k) (by rw [hl8]; exact hlt)
        obtain ⟨b, o, hA, c0'⟩ := (HN.out.all HF).at1 hx
        have hA2 := Option.some.inj hA
        injection hA2 with hb1 ho1 _
        subst hb1
        subst ho1
        rw [Nat.zero_add] at c0'
        have hx0 := (Hsm.out x hmem).1
        have hx1 := (Hsm.out x hmem).2
        have Hx := Lib.hid hx
        have b0 : (0 : Int) ≤ (k : Int) := by omega
        have b1 : (k : Int) < 5 := by omega
        clear hx hA hmem hl8 hN
        go_wp2_with fail
        refine (put2_call' HO.sl (by omega) hx0 hx1).mono ?_
        rintro e w2 ⟨ys, A2, c2, rfl, HY, o2, f2⟩
        go_wp2_with fail
        go_roundw
        case rel =>
          refine ⟨k + 1, ys, by omega, by go_num, (?_ : ys = vints ((pageNums p).take (k + 1))), o2.lower (Nat.le_trans FN.size HF.size), HF.trans f2⟩
          rw [vints_snoc2 Hx.out, HY.out, HZ.out]
        case measure => simp [intOf]; omega
      · obtain rfl : k = 5 := by omega
        rw [show ((5 : Nat) : Int) = (5 : Int) from rfl]
        have FW := FN.trans HF
        have BW := (HF.block w.heap.size (blk_lt BN) trivial).trans BN
        obtain ⟨p0, p1, p2, p3, p4, pz⟩ := blk5 BW
        obtain ⟨W5, hW5⟩ : ∃ W5, W5 = wr := ⟨_, rfl⟩
        have HZ5 : Hid (zs = vints (pageNums p)) := Lib.hid (by rw [HZ.out]; rfl)
        clear HN hN hl8 hlt hk B B1 BN F0 F1 f1 HZ HF FN
        subst hW5
        have HS5 := Lib.hid (Hs.out.all FW)
        go_wp2_with fail
        go_loopw [5, 39] (fun b i wr => ∃ (k : Nat) (ys : List UInt8), k ≤ n ∧ i = .int .i64 k ∧ Hid (ys = vints (pageNums p) ++ entsBytes (p.ents.take k)) ∧ Own kByte 5 w.heap.size All wr b ys ∧ Fr All W5 wr) (fun _ i _ => n - (intOf i).toNat)
        case atStart => exact ⟨0, zs, Nat.zero_le _, rfl, Lib.hid (by rw [HZ5.out]; simp [entsBytes]), HO, Fr.refl _ _⟩
        case round =>
          clear p0 p1 p2 p3 p4 pz
          obtain ⟨k, ys, hk, rfl, HY, HO2, HF⟩ := hrel
          obtain ⟨A2, c2, rfl⟩ := HO2.length
          have hyl : ys.length ≤ 2000 := by
            have h1 := entsBytes_short (p.ents.take k) (fun e he => Hsh.out e (List.mem_of_mem_take he))
            have h2 := vints_len' (pageNums p) Hsm.out
            have h3 : (pageNums p).length = 5 := rfl
            rw [HY.out, List.length_append]
            rw [List.length_take] at h1
            omega
          by_cases hlt : k < n
          · obtain ⟨x, hx, xm⟩ := get_of (l := p.ents) (k := k) (by rw [En.out]; exact hlt)
            obtain ⟨b, o, A0, n0, c0, A1, n1, c1, rfl, x0, x1, k0, k1⟩ := ent_at (HS5.out.all HF) hx
            have Hx := Lib.hid hx
            have hxs := Hsh.out x xm
            have e0 := k0.len
            have e1 := k1.len
            have b0 : (0 : Int) ≤ (k : Int) := by omega
            have b1 : (k : Int) < (n : Int) := by omega
            have E0 := Lib.hid e0
            have E1 := Lib.hid e1
            have l0 := Lib.hid hxs.1
            have l1 := Lib.hid hxs.2
            have FA := (Fr.refl All wr).alloc (.cells #[.slice A0 n0 c0, .slice A1 n1 c1] 89)
            have AB := heap_alloc_new wr (.cells #[.slice A0 n0 c0, .slice A1 n1 c1] 89)
            clear hx xm e0 e1 hxs
            go_upto_region 13 with (fail)
            refine wp_name ?_
            intro V hV
            rw [← hV] at FA AB
            clear hV x0 x1
            obtain ⟨g0, g1, gz⟩ := blk2 AB
            go_region_held3 (fun w' => w'.cell? ⟨wr.heap.size, 0, none⟩ = some (.slice A0 n0 c0) ∧ w'.cell? ⟨wr.heap.size, 1, none⟩ = some (.slice A1 n1 c1))
              (first | go_keep | (go_split_ands; refine ⟨?_, ?_⟩ <;> exact Fr.cell (by assumption) trivial (by assumption)))
              (first
                | (go_at_call_of 67 (Value.slice A0 n0 c0); refine (put_bytes_call' (HO2.all FA.drew).sl (k0.all FA.drew) (by omega) (by have := l0.out; omega)).mono ?_; rintro e w2 ⟨xs, A3, c3, rfl, HX, o2, f2⟩)
                | (go_at_call_of 67 (Value.slice A1 n1 c1); refine (put_bytes_call' o2.sl (k1.all (FA.drew.trans f2)) (by rw [HX.out, List.length_append, List.length_append]; have := l0.out; have := vint_len 9 (zig x.key.length) (by decide) (by simp only [zig]; split <;> omega); omega) (by have := l1.out; omega)).mono ?_; rintro e w3 ⟨us, A4, c4, rfl, HU, o3, f3⟩))
            go_wp2_with fail
            go_roundw
            case rel =>
              refine ⟨k + 1, us, by omega, by go_num, (?_ : us = vints (pageNums p) ++ entsBytes (p.ents.take (k + 1))), o3.lower (Nat.le_trans FW.size (Nat.le_trans HF.size (Nat.le_trans FA.drew.size f2.size))), HF.trans ((FA.drew.trans f2).trans f3)⟩
              rw [entsBytes_snoc Hx.out, HU.out, HX.out, HY.out]
              simp [entBytes, bytesOf]
            case measure => simp [intOf]; omega
          · obtain rfl : k = n := by omega
            go_wp2_with fail
            go_ret2
            refine ⟨ys, A2, c2, rfl, (?_ : ys = pgB p), HO2, FW.trans HF⟩
            unfold pgB
            rw [if_pos Hix.out, HY.out, ← En.out, List.take_length]
            rfl
end Go.Proofs.YtoaamcpiljoojaaDoor
