/- The walk of the law on shapes. -/
import Derived.Test.YtblogahililddaaLaw
import Derived.Test.YtblogahililddaaApply4
import Derived.Test.YtblogahililddaaRef
import Derived.Test.YtblogahililddaaCutting
namespace Go.Proofs.Ytblogahililddaa
open Go.RowKit

/-- Entries of one byte each. -/
def ones (bs : List UInt8) : List Ent := bs.map fun b => ⟨[b], []⟩
theorem ones_len (bs : List UInt8) : (ones bs).length = bs.length := List.length_map ..
theorem ones_ok {bs : List UInt8} (h : bs.length ≤ 8) : EntsOk (ones bs) := by
  refine ⟨by rw [ones_len]; omega, fun e he => ?_⟩
  simp only [ones, List.mem_map] at he
  obtain ⟨i, _, rfl⟩ := he
  exact ⟨by simp, by simp⟩
theorem ones_take (bs : List UInt8) (s : Nat) : (ones bs).take s = ones (bs.take s) := by simp [ones]
theorem ones_drop (bs : List UInt8) (s : Nat) : (ones bs).drop s = ones (bs.drop s) := by simp [ones]
theorem ones_append (cs bs : List UInt8) : ones cs ++ ones bs = ones (cs ++ bs) := by simp [ones]
theorem ones_cons (b : UInt8) (bs : List UInt8) : (⟨[b], []⟩ : Ent) :: ones bs = ones (b :: bs) := rfl

/-- What one number does to the bytes. -/
def shaped (x : Int) (s j : Nat) (bs : List UInt8) : List UInt8 :=
  if x.tmod 3 = 0 then (if s < bs.length then bs.take s ++ bs.drop (s + 1) else bs)
  else if bs.length < 8 then bs.take (min s bs.length) ++ UInt8.ofNat j :: bs.drop (min s bs.length) else bs
theorem shaped_len {x : Int} {s j : Nat} {bs : List UInt8} (h : bs.length ≤ 8) : (shaped x s j bs).length ≤ 8 := by
  unfold shaped
  repeat' split
  all_goals (try simp only [List.length_append, List.length_take, List.length_drop, List.length_cons])
  all_goals omega

theorem papply_remove {j s : Nat} {bs : List UInt8} {key val : List UInt8} {x : Int} (hx : x.tmod 3 = 0) : papply ⟨0, j, 0, -1, ones bs⟩ ⟨(j : Int) + 1, 0, 0, 0, 0, 3, s, key, val, false⟩ = ⟨0, (j : Int) + 1, 0, -1, ones (shaped x s j bs)⟩ := by
  unfold papply shaped
  rw [if_neg (fun h => h.elim (fun h => h rfl) (fun h => by dsimp only at h; omega)), if_pos hx]
  dsimp only
  rw [if_neg (by decide), if_neg (by decide), if_pos rfl, Int.toNat_natCast, ones_len, ones_take, ones_drop, ones_append]
  split <;> rfl
theorem papply_insert {j s : Nat} {bs : List UInt8} {x : Int} (hx : ¬x.tmod 3 = 0) : papply ⟨0, j, 0, -1, ones bs⟩ ⟨(j : Int) + 1, 0, 0, 0, 0, 2, s, [UInt8.ofNat j], [], false⟩ = ⟨0, (j : Int) + 1, 0, -1, ones (shaped x s j bs)⟩ := by
  unfold papply shaped
  rw [if_neg (fun h => h.elim (fun h => h rfl) (fun h => by dsimp only at h; omega)), if_neg hx]
  dsimp only
  rw [if_neg (by decide), if_pos rfl, Int.toNat_natCast, ones_len, ones_take, ones_drop, ones_cons, ones_append]
  split <;> rfl

set_option maxRecDepth 100000 in
set_option maxHeartbeats 2000000 in
theorem shapes_walk {v : Value} {xs : List Int} (w : World) (h : Sl kInt All w v xs) : Calls Try.prog 3 #[v] w fun e w' => e = .returned (.bool true) ∧ Fr All w w' := by
  obtain ⟨A0, n, c0, rfl, en, hnc⟩ := h.open_
  by_cases hlong : 40 < n
  · go_enter Try.func3, Try.ntmps3
    go_wp2_with fail
    refine (first_call _).mono ?_
    rintro e w1 ⟨rfl, f1⟩
    have hg : decide ((n : Int) > 40) = true := decide_eq_true (by omega)
    go_wp2_with fail
    go_ret
    exact ⟨rfl, f1⟩
  have hg : decide ((n : Int) > 40) = false := decide_eq_false (by omega)
  go_enter Try.func3, Try.ntmps3
  go_wp2_with fail
  refine (first_call _).mono ?_
  rintro e w1 ⟨rfl, f1⟩
  go_wp2_with fail
  refine (page_new 0 _).mono ?_
  rintro e w2 ⟨A2, c2, rfl, o2, f2⟩
  have o2' := Applied.sl o2
  have F2 := f1.trans f2
  clear o2
  dsimp only at o2' ⊢
  rw [show ([] : List Ent).length = 0 from rfl] at o2' ⊢
  go_wp2_with fail
  clear hg
  have hw2 : w1.heap.size ≤ w2.heap.size := f2.size
  go_loopw [5, 6] (fun hv i wr => ∃ (j : Nat) (bs : List UInt8) (A B : Option Addr) (c d : Nat), j ≤ n ∧ i = .int .i64 j ∧ hv = .slice B bs.length d ∧ bs.length ≤ 8 ∧
      Sl kByte (fun b => b ≠ w2.heap.size) wr (.slice B bs.length d) bs ∧ Sl kEnt (fun b => b ≠ w2.heap.size) wr (.slice A bs.length c) (ones bs) ∧ Fr All w2 wr ∧
      wr.cell? ⟨w2.heap.size, 0, none⟩ = some (.int .i64 0) ∧ wr.cell? ⟨w2.heap.size, 1, none⟩ = some (.int .i64 j) ∧ wr.cell? ⟨w2.heap.size, 2, none⟩ = some (.int .i64 0) ∧ wr.cell? ⟨w2.heap.size, 3, none⟩ = some (.int .i64 (-1)) ∧ wr.cell? ⟨w2.heap.size, 4, none⟩ = some (.slice A bs.length c) ∧ ∀ j, wr.frozen? ⟨w2.heap.size, j, none⟩ = false)
    (fun _ i _ => n - (intOf i).toNat)
  case atStart =>
    refine ⟨0, [], A2, none, c2, 0, Nat.zero_le _, rfl, rfl, Nat.zero_le _, Sl.nil_ _ _ _, ?_, (Fr.refl All w2).alloc _, ?_⟩
    · exact (o2'.mono fun b hb hl => by omega).all ((Fr.refl All w2).alloc _)
    · obtain ⟨a0, a1, a2, a3, a4, az⟩ := blk5 (heap_alloc_new w2 (.cells #[.int .i64 0, .int .i64 0, .int .i64 0, .int .i64 (-1), .slice A2 0 c2] 26))
      exact ⟨a0, a1, a2, a3, a4, az⟩
  case round =>
    obtain ⟨j, bs, A, B, c, d, hj, rfl, rfl, hb8, HB, HE, HF, a0, a1, a2, a3, a4, az⟩ := hrel
    by_cases hlt : j < n
    · obtain ⟨x, hx, _⟩ := get_of (l := xs) (k := j) (by omega)
      have HX := (h.all F2).all HF
      obtain ⟨b, o, rfl, cx⟩ := HX.at1 hx
      have b0 : (0 : Int) ≤ (j : Int) := by omega
      have b1 : (j : Int) < (n : Int) := by omega
      have hw1 : IntKind.i64.wrap ((j : Int) + 1) = (j : Int) + 1 := IntWalk.i64_in _ (by omega)
      have hl1 := World.block_lt_of_cell? _ _ a0
      have hlx := World.block_lt_of_cell? _ _ cx
      dsimp only at hl1 hlx
      clear hx
      go_wp2_with fail
      refine (number _ (by decide) (by decide)).mono ?_
      rintro e wn ⟨s, hs, rfl, hwn⟩
      obtain rfl := hwn.symm
      obtain ⟨r, hr⟩ : ∃ r : Int, x.tmod 3 = r := ⟨_, rfl⟩
      have hrb : -3 < r ∧ r < 3 := by
        rw [← hr]
        have q1 := Int.natAbs_tmod x 3
        have q2 : x.natAbs % (3 : Int).natAbs < (3 : Int).natAbs := Nat.mod_lt _ (by decide)
        omega
      have hw2 : IntKind.i64.wrap r = r := IntWalk.i64_in _ (by omega)
      by_cases hr0 : r = 0
      · subst hr0
        go_wp2_with fail
        obtain ⟨w3, hw3⟩ : ∃ w3, (wr.alloc (.cells #[.int .u8 (j : Int)] 5)).alloc (.cells #[.int .i64 ((j : Int) + 1), .int .i64 0, .int .i64 0, .int .i64 0, .int .i64 0, .int .i64 3, .int .i64 s, .slice none 0 0, .slice none 0 0, .bool false] 31) = w3 := ⟨_, rfl⟩
        have R := heap_alloc_new (wr.alloc (.cells #[.int .u8 (j : Int)] 5)) (.cells #[.int .i64 ((j : Int) + 1), .int .i64 0, .int .i64 0, .int .i64 0, .int .i64 0, .int .i64 3, .int .i64 s, .slice none 0 0, .slice none 0 0, .bool false] 31)
        have G3 : Fr All wr w3 := by rw [← hw3]; exact ((Fr.refl All wr).alloc _).alloc _
        have hw4 : ((UInt8.ofNat j).toNat : Int) = (j : Int) := by rw [UInt8.toNat_ofNat_of_lt' (by simp only [UInt8.size]; omega)]
        have key : Sl kByte All w3 (.slice (some ⟨wr.heap.size, 0, none⟩) 1 1) [UInt8.ofNat j] := by
          have h1 := Sl.byte wr All (UInt8.ofNat j) 5 trivial
          rw [hw4] at h1
          rw [← hw3]
          exact h1.all ((Fr.refl All _).alloc _)
        have z3 : w3.heap.size = wr.heap.size + 2 := by rw [← hw3, World.size_alloc, World.size_alloc]
        rw [World.size_alloc] at R
        rw [hw3] at R ⊢
        clear hw3 hw4
        refine (page_apply (p := ⟨0, j, 0, -1, ones bs⟩) (r := ⟨(j : Int) + 1, 0, 0, 0, 0, 3, s, [], [], false⟩) (HE.all G3) (ones_ok hb8) (Sl.nil_ _ All _) (Sl.nil_ _ All _) (by simp) (by simp) (by show (0 : Int) ≤ (s : Int); omega)).mono ?_
        rintro e w4 ⟨A4, c4, rfl, o4, f4⟩
        rw [papply_remove hr] at o4 ⊢
        have o4' := Applied.sl o4
        clear o4
        dsimp only at o4' ⊢
        have hb8' := shaped_len (x := x) (s := s) (j := j) hb8
        obtain ⟨bs', hbs'⟩ : ∃ bs', bs' = shaped x s j bs := ⟨_, rfl⟩
        rw [← hbs'] at o4' hb8' ⊢
        have Hbs := Lib.hid hbs'
        clear hbs'
        rw [ones_len] at o4' ⊢
        have G4 := G3.then_all f4
        have d0 := G4.cell trivial a0
        have d1 := G4.cell trivial a1
        have d2 := G4.cell trivial a2
        have d3 := G4.cell trivial a3
        have d4 := G4.cell trivial a4
        have dz : ∀ j, w4.frozen? ⟨w2.heap.size, j, none⟩ = false := fun j => (World.frozen?_of_block (a := ⟨w2.heap.size, j, none⟩) (G4.block _ hl1 trivial)).trans (az j)
        have kd : w4.cell? ⟨wr.heap.size + 1, 5, none⟩ = some (.int .i64 3) := (blk10 ((f4.block (wr.heap.size + 1) (by omega) trivial).trans R)).2.2.2.2.2.1
        have HB4 := HB.all G4
        have HE4 : Sl kEnt (fun b => b ≠ w2.heap.size) w4 (.slice A4 bs'.length c4) (ones bs') := o4'.mono fun b hb hl => by unfold From at hb; omega
        have HF4 := HF.then_all G4
        have z4 : wr.heap.size + 2 ≤ w4.heap.size := by have := f4.size; omega
        clear a0 a1 a2 a3 a4 az HB HE o4' R G3 f4 key HX
        go_upto_region 16 with (fail)
        refine wp_name ?_
        intro W hW
        have a0 : W.cell? ⟨w2.heap.size, 0, none⟩ = some (.int .i64 0) := by rw [hW]; go_simp
        have a1 : W.cell? ⟨w2.heap.size, 1, none⟩ = some (.int .i64 ((j : Int) + 1)) := by rw [hW]; go_simp
        have a2 : W.cell? ⟨w2.heap.size, 2, none⟩ = some (.int .i64 0) := by rw [hW]; go_simp
        have a3 : W.cell? ⟨w2.heap.size, 3, none⟩ = some (.int .i64 (-1)) := by rw [hW]; go_simp
        have a4 : W.cell? ⟨w2.heap.size, 4, none⟩ = some (.slice A4 bs'.length c4) := by rw [hW]; go_simp
        have az : ∀ j, W.frozen? ⟨w2.heap.size, j, none⟩ = false := by intro j; rw [hW]; go_simp
        have kd' : W.cell? ⟨wr.heap.size + 1, 5, none⟩ = some (.int .i64 3) := by rw [hW]; go_simp
        have FW : Fr (fun b => b ≠ w2.heap.size) w4 W := by
          rw [hW]
          repeat (first | (with_reducible exact Fr.refl _ _) | with_reducible refine Fr.setCell ?_ (fun m hm => by exact hm) _)
        have HFW : Fr All w2 W := by
          rw [hW]
          repeat (first | (with_reducible exact HF4) | with_reducible refine Fr.setNew ?_ (by dsimp only; omega) _)
        have HB := HB4.move FW
        have HE := HE4.move FW
        have zW : wr.heap.size + 2 ≤ W.heap.size := Nat.le_trans z4 FW.size
        clear hW d0 d1 d2 d3 d4 dz kd HB4 HE4 HF4 FW G4 HF
        by_cases hsl : s < bs.length
        · have hsl' : decide ((s : Int) < (bs.length : Int)) = true := decide_eq_true (by omega)
          have hdc : bs.length ≤ d ∧ d ≤ maxLen := by
            obtain ⟨_, _, _, he, _, q2, q3⟩ := HB.open_
            injection he with _ e2 e3
            omega
          have hml : maxLen = 9223372036854775807 := rfl
          have q1 : s ≤ d := by omega
          have q2 : s + 1 ≤ d := by omega
          have q3 : s + 1 ≤ bs.length := by omega
          have q4 : IntKind.i64.wrap ((s : Int) + 1) = (s : Int) + 1 := IntWalk.i64_in _ (by omega)
          have q5 : ((s : Int) + 1).toNat = s + 1 := by omega
          have q6 : (0 : Int) ≤ (s : Int) + 1 := by omega
          have q7 : (s : Int) + 1 ≤ (bs.length : Int) := by omega
          have q8 : (s : Int) ≤ (d : Int) := by omega
          have q9 : (s : Int) ≤ (bs.length : Int) := by omega
          have h0 : W.drew.heap.size = W.heap.size := rfl
          have HT := HB.take (s := s) (by omega)
          have HD := HB.drop (s := s + 1) (by omega)
          rw [show (s + 1) * kByte.sz = s + 1 from Nat.mul_one _] at HD
          have hmap : (fun a : Addr => a.add (s + 1)) = fun x : Addr => ⟨x.block, x.off + (s + 1), none⟩ := by
            funext a
            unfold Addr.add
            rw [if_neg (by omega)]
          rw [hmap] at HD
          clear hmap
          obtain ⟨B2, hB2⟩ : ∃ B2, (if d = s + 1 then B else Option.map (fun x : Addr => (⟨x.block, x.off + (s + 1), none⟩ : Addr)) B) = B2 := ⟨_, rfl⟩
          rw [hB2] at HD
          have HO1 : Own kByte 5 W.heap.size Nowhere (W.alloc (.cells #[] 5)).drew (.slice (some ⟨W.heap.size, 0, none⟩) 0 0) [] := (Own.box0 (d := kByte) (S := Nowhere) (w := W) 5 (Nat.le_refl _)).all (Fr.refl All _).drew
          have HT1 : Src kByte Nowhere (W.alloc (.cells #[] 5)).drew (.slice B s d) (bs.take s) := (HT.all ((Fr.refl All W).alloc (.cells #[] 5)).drew).src.any
          have hl5 : (([] : List UInt8).length + (bs.take s).length) * 1 ≤ 140737488355328 := by simp only [List.length_nil, List.length_take]; omega
          have hl6 : (([] ++ bs.take s).length + (bs.drop (s + 1)).length) * 1 ≤ 140737488355328 := by simp only [List.nil_append, List.length_take, List.length_drop]; omega
          have hz5 : W.heap.size ≤ (W.alloc (.cells #[] 5)).drew.heap.size := by show W.heap.size ≤ (W.alloc _).heap.size; rw [World.size_alloc]; omega
          have FA : Fr All W (W.alloc (.cells #[] 5)).drew := ((Fr.refl All W).alloc _).drew
          clear HT
          go_wp2_with fail
          go_region_held3 (fun _ => True) (trivial) (first
            | (
                with_reducible refine step_of ?_ ?_
                · rfl
                refine wp_app rfl Try.underlying28 info_u8 rfl (by decide) HO1 HT1 rfl rfl (fun _ h _ => h.elim) hl5 hz5 ?_
                intro u5 w5 h3 h4 h5
                have F5 : Fr All W w5 := FA.row h4.grown (fun k hk => Nat.le_of_eq (Option.some.inj hk))
                have HD5 : Src kByte Nowhere w5 (.slice B2 (bs.length - (s + 1)) (d - (s + 1))) (bs.drop (s + 1)) := (HD.all F5).src.any)
            | (
                with_reducible refine step_of ?_ ?_
                · rfl
                refine wp_app rfl Try.underlying28 info_u8 rfl (by decide) h3 HD5 rfl rfl (fun _ h _ => h.elim) hl6 F5.size ?_
                intro u6 w6 h6 h7 h8
                have F6 : Fr All W w6 := F5.row h7.grown (fun k hk => (own_lt h3 k hk).1)))
          have hbs6 : [] ++ bs.take s ++ bs.drop (s + 1) = bs' := by rw [Hbs.out, shaped, if_pos hr, if_pos hsl, List.nil_append]
          rw [hbs6] at h6
          obtain ⟨B6, d6, rfl⟩ := h6.length
          have HB6 : Sl kByte (fun b => b ≠ w2.heap.size) w6 (.slice B6 bs'.length d6) bs' := h6.plain_in (fun b hb hl => by omega)
          have e0 := F6.cell trivial a0
          have e1 := F6.cell trivial a1
          have e2 := F6.cell trivial a2
          have e3 := F6.cell trivial a3
          have e4 := F6.cell trivial a4
          have ez : ∀ j, w6.frozen? ⟨w2.heap.size, j, none⟩ = false := fun j => (World.frozen?_of_block (a := ⟨w2.heap.size, j, none⟩) (F6.block _ (by dsimp only; omega) trivial)).trans (az j)
          have HE6 := HE.all F6
          have HF6 := HFW.then_all F6
          clear h3 h4 h5 h6 h7 h8 F5 F6 HD HD5 hB2 HO1 HT1 hl5 hl6 hz5 FA a0 a1 a2 a3 a4 az kd' hbs6 q1 q2 q3 q4 q5 q6 q7 q8 q9 hml hdc h0 hsl hsl' HB HE
          have z6 : w2.heap.size < w6.heap.size := World.block_lt_of_cell? _ _ e0
          clear hr hrb hw2 hwn
          go_wp2_with fail
          go_loopw [9] (fun q wq => ∃ t : Nat, t ≤ bs'.length ∧ q = .int .i64 t ∧ Fr All w6 wq) (fun q _ => bs'.length - (intOf q).toNat)
          case atStart => exact ⟨0, Nat.zero_le _, rfl, Fr.refl _ _⟩
          case round =>
            obtain ⟨t, ht, rfl, HQ⟩ := hrel
            have g4 := HQ.cell trivial e4
            by_cases htl : t < bs'.length
            · obtain ⟨y, hy, _⟩ := get_of (l := bs') (k := t) htl
              have hy' : (ones bs')[t]? = some ⟨[y], []⟩ := by rw [ones, List.getElem?_map, hy]; rfl
              obtain ⟨eb, eo, K0, m0, k0, K1, m1, k1, hA4, x0, x1, l0, l1⟩ := ent_at (HE6.all HQ) hy'
              obtain ⟨pb, po, hB6, py⟩ := (HB6.all HQ).at1 hy
              have hm0 : 1 = m0 := l0.len
              obtain ⟨kb, ko, hK0, ky⟩ := l0.at1 (k := 0) (x := y) rfl
              rw [Nat.add_zero] at ky
              subst hA4 hB6 hK0 hm0
              have b0 : (0 : Int) ≤ (t : Int) := by omega
              have b1 : (t : Int) < (bs'.length : Int) := by omega
              clear hy hy' l0 l1
              go_wp2_with fail
              go_quiet (fail)
              go_wp2_with fail
              go_roundw
              case rel => exact ⟨t + 1, by omega, by go_num, by first | exact HQ.drewN _ | exact HQ⟩
              case measure => simp [intOf]; omega
            · have hge : bs'.length ≤ t := by omega
              clear htl ht
              go_wp2_with fail
              go_roundw
              case rel =>
                refine ⟨j + 1, bs', _, _, _, _, by omega, by go_num, rfl, hb8', HB6.all HQ, HE6.all HQ, HF6.trans HQ, HQ.cell trivial e0, ?_, HQ.cell trivial e2, HQ.cell trivial e3, g4, fun q => (World.frozen?_of_block (a := ⟨w2.heap.size, q, none⟩) (HQ.block _ (by dsimp only; omega) trivial)).trans (ez q)⟩
                rw [show ((j + 1 : Nat) : Int) = (j : Int) + 1 by omega]
                exact HQ.cell trivial e1
              case measure => simp [intOf]; omega
        · have hsl' : decide ((s : Int) < (bs.length : Int)) = false := decide_eq_false (by omega)
          obtain rfl : bs' = bs := by rw [Hbs.out, shaped, if_pos hr, if_neg hsl]
          have e0 := a0
          have e1 := a1
          have e2 := a2
          have e3 := a3
          have e4 := a4
          have ez := az
          have HB6 := HB
          have HE6 := HE
          have HF6 := HFW
          clear a0 a1 a2 a3 a4 az HB HE HFW
          have z6 : w2.heap.size < W.heap.size := World.block_lt_of_cell? _ _ e0
          clear hr hrb hw2 hwn
          go_wp2_with fail
          go_loopw [9] (fun q wq => ∃ t : Nat, t ≤ bs'.length ∧ q = .int .i64 t ∧ Fr All W wq) (fun q _ => bs'.length - (intOf q).toNat)
          case atStart => exact ⟨0, Nat.zero_le _, rfl, Fr.refl _ _⟩
          case round =>
            obtain ⟨t, ht, rfl, HQ⟩ := hrel
            have g4 := HQ.cell trivial e4
            by_cases htl : t < bs'.length
            · obtain ⟨y, hy, _⟩ := get_of (l := bs') (k := t) htl
              have hy' : (ones bs')[t]? = some ⟨[y], []⟩ := by rw [ones, List.getElem?_map, hy]; rfl
              obtain ⟨eb, eo, K0, m0, k0, K1, m1, k1, hA4, x0, x1, l0, l1⟩ := ent_at (HE6.all HQ) hy'
              obtain ⟨pb, po, hB6, py⟩ := (HB6.all HQ).at1 hy
              have hm0 : 1 = m0 := l0.len
              obtain ⟨kb, ko, hK0, ky⟩ := l0.at1 (k := 0) (x := y) rfl
              rw [Nat.add_zero] at ky
              subst hA4 hB6 hK0 hm0
              have b0 : (0 : Int) ≤ (t : Int) := by omega
              have b1 : (t : Int) < (bs'.length : Int) := by omega
              clear hy hy' l0 l1
              go_wp2_with fail
              go_quiet (fail)
              go_wp2_with fail
              go_roundw
              case rel => exact ⟨t + 1, by omega, by go_num, by first | exact HQ.drewN _ | exact HQ⟩
              case measure => simp [intOf]; omega
            · have hge : bs'.length ≤ t := by omega
              clear htl ht
              go_wp2_with fail
              go_roundw
              case rel =>
                refine ⟨j + 1, bs', _, _, _, _, by omega, by go_num, rfl, hb8', HB6.all HQ, HE6.all HQ, HF6.trans HQ, HQ.cell trivial e0, ?_, HQ.cell trivial e2, HQ.cell trivial e3, g4, fun q => (World.frozen?_of_block (a := ⟨w2.heap.size, q, none⟩) (HQ.block _ (by dsimp only; omega) trivial)).trans (ez q)⟩
                rw [show ((j + 1 : Nat) : Int) = (j : Int) + 1 by omega]
                exact HQ.cell trivial e1
              case measure => simp [intOf]; omega
      · have hr1 : (r == 0) = false := by rw [beq_eq_false_iff_ne]; exact hr0
        go_wp2_with fail
        obtain ⟨w3, hw3⟩ : ∃ w3, (wr.alloc (.cells #[.int .u8 (j : Int)] 5)).alloc (.cells #[.int .i64 ((j : Int) + 1), .int .i64 0, .int .i64 0, .int .i64 0, .int .i64 0, .int .i64 2, .int .i64 s, .slice (some ⟨wr.heap.size, 0, none⟩) 1 1, .slice none 0 0, .bool false] 31) = w3 := ⟨_, rfl⟩
        have R := heap_alloc_new (wr.alloc (.cells #[.int .u8 (j : Int)] 5)) (.cells #[.int .i64 ((j : Int) + 1), .int .i64 0, .int .i64 0, .int .i64 0, .int .i64 0, .int .i64 2, .int .i64 s, .slice (some ⟨wr.heap.size, 0, none⟩) 1 1, .slice none 0 0, .bool false] 31)
        have G3 : Fr All wr w3 := by rw [← hw3]; exact ((Fr.refl All wr).alloc _).alloc _
        have hw4 : ((UInt8.ofNat j).toNat : Int) = (j : Int) := by rw [UInt8.toNat_ofNat_of_lt' (by simp only [UInt8.size]; omega)]
        have key : Sl kByte All w3 (.slice (some ⟨wr.heap.size, 0, none⟩) 1 1) [UInt8.ofNat j] := by
          have h1 := Sl.byte wr All (UInt8.ofNat j) 5 trivial
          rw [hw4] at h1
          rw [← hw3]
          exact h1.all ((Fr.refl All _).alloc _)
        have z3 : w3.heap.size = wr.heap.size + 2 := by rw [← hw3, World.size_alloc, World.size_alloc]
        rw [World.size_alloc] at R
        rw [hw3] at R ⊢
        clear hw3 hw4
        refine (page_apply (p := ⟨0, j, 0, -1, ones bs⟩) (r := ⟨(j : Int) + 1, 0, 0, 0, 0, 2, s, [UInt8.ofNat j], [], false⟩) (HE.all G3) (ones_ok hb8) key (Sl.nil_ _ All _) (by simp) (by simp) (by show (0 : Int) ≤ (s : Int); omega)).mono ?_
        rintro e w4 ⟨A4, c4, rfl, o4, f4⟩
        rw [papply_insert (hr ▸ hr0)] at o4 ⊢
        have o4' := Applied.sl o4
        clear o4
        dsimp only at o4' ⊢
        have hb8' := shaped_len (x := x) (s := s) (j := j) hb8
        obtain ⟨bs', hbs'⟩ : ∃ bs', bs' = shaped x s j bs := ⟨_, rfl⟩
        rw [← hbs'] at o4' hb8' ⊢
        have Hbs := Lib.hid hbs'
        clear hbs'
        rw [ones_len] at o4' ⊢
        have G4 := G3.then_all f4
        have d0 := G4.cell trivial a0
        have d1 := G4.cell trivial a1
        have d2 := G4.cell trivial a2
        have d3 := G4.cell trivial a3
        have d4 := G4.cell trivial a4
        have dz : ∀ j, w4.frozen? ⟨w2.heap.size, j, none⟩ = false := fun j => (World.frozen?_of_block (a := ⟨w2.heap.size, j, none⟩) (G4.block _ hl1 trivial)).trans (az j)
        have kd : w4.cell? ⟨wr.heap.size + 1, 5, none⟩ = some (.int .i64 2) := (blk10 ((f4.block (wr.heap.size + 1) (by omega) trivial).trans R)).2.2.2.2.2.1
        have HB4 := HB.all G4
        have HE4 : Sl kEnt (fun b => b ≠ w2.heap.size) w4 (.slice A4 bs'.length c4) (ones bs') := o4'.mono fun b hb hl => by unfold From at hb; omega
        have HF4 := HF.then_all G4
        have z4 : wr.heap.size + 2 ≤ w4.heap.size := by have := f4.size; omega
        clear a0 a1 a2 a3 a4 az HB HE o4' R G3 f4 key HX
        go_upto_region 16 with (fail)
        refine wp_name ?_
        intro W hW
        have a0 : W.cell? ⟨w2.heap.size, 0, none⟩ = some (.int .i64 0) := by rw [hW]; go_simp
        have a1 : W.cell? ⟨w2.heap.size, 1, none⟩ = some (.int .i64 ((j : Int) + 1)) := by rw [hW]; go_simp
        have a2 : W.cell? ⟨w2.heap.size, 2, none⟩ = some (.int .i64 0) := by rw [hW]; go_simp
        have a3 : W.cell? ⟨w2.heap.size, 3, none⟩ = some (.int .i64 (-1)) := by rw [hW]; go_simp
        have a4 : W.cell? ⟨w2.heap.size, 4, none⟩ = some (.slice A4 bs'.length c4) := by rw [hW]; go_simp
        have az : ∀ j, W.frozen? ⟨w2.heap.size, j, none⟩ = false := by intro j; rw [hW]; go_simp
        have kd' : W.cell? ⟨wr.heap.size + 1, 5, none⟩ = some (.int .i64 2) := by rw [hW]; go_simp
        have FW : Fr (fun b => b ≠ w2.heap.size) w4 W := by
          rw [hW]
          repeat (first | (with_reducible exact Fr.refl _ _) | with_reducible refine Fr.setCell ?_ (fun m hm => by exact hm) _)
        have HFW : Fr All w2 W := by
          rw [hW]
          repeat (first | (with_reducible exact HF4) | with_reducible refine Fr.setNew ?_ (by dsimp only; omega) _)
        have HB := HB4.move FW
        have HE := HE4.move FW
        have zW : wr.heap.size + 2 ≤ W.heap.size := Nat.le_trans z4 FW.size
        clear hW d0 d1 d2 d3 d4 dz kd HB4 HE4 HF4 FW G4 HF
        by_cases hlb : bs.length < 8
        · have hlb' : decide ((bs.length : Int) < 8) = true := decide_eq_true (by omega)
          obtain ⟨m, hm⟩ : ∃ m, m = min s bs.length := ⟨_, rfl⟩
          have hmin : (if (bs.length : Int) < (s : Int) then (bs.length : Int) else (s : Int)) = (m : Int) := by rw [hm]; split <;> omega
          have hmin' : (if bs.length < s then (bs.length : Int) else (s : Int)) = (m : Int) := by rw [hm]; split <;> omega
          have hdc : bs.length ≤ d ∧ d ≤ maxLen := by
            obtain ⟨_, _, _, he, _, q2, q3⟩ := HB.open_
            injection he with _ e2 e3
            omega
          have hml : maxLen = 9223372036854775807 := rfl
          have Hm := Lib.hid hm
          have q1 : m ≤ d := by omega
          have q3 : m ≤ bs.length := by omega
          have q6 : (0 : Int) ≤ (m : Int) := by omega
          have q8 : (m : Int) ≤ (d : Int) := by omega
          have q9 : (m : Int) ≤ (bs.length : Int) := by omega
          clear hm
          have HT := HB.take (s := m) (by omega)
          have HD := HB.drop (s := m) (by omega)
          rw [show m * kByte.sz = m from Nat.mul_one _] at HD
          obtain ⟨B2, hB2⟩ : ∃ B2, (if d = m then B else Option.map (fun a => a.add m) B) = B2 := ⟨_, rfl⟩
          rw [hB2] at HD
          have hw4 : ((UInt8.ofNat j).toNat : Int) = (j : Int) := by rw [UInt8.toNat_ofNat_of_lt' (by simp only [UInt8.size]; omega)]
          have HY : ∀ (X : World) (S : Nat → Prop), S X.heap.size → Sl kByte S (X.alloc (.cells #[.int .u8 (j : Int)] 5)) (.slice (some ⟨X.heap.size, 0, none⟩) 1 1) [UInt8.ofNat j] := fun X S hS => by
            have h1 := Sl.byte X S (UInt8.ofNat j) 5 hS
            rwa [hw4] at h1
          have sz1 : (W.alloc (.cells #[] 5)).heap.size = W.heap.size + 1 := World.size_alloc _ _
          have sz2 : (W.alloc (.cells #[.int .u8 (j : Int)] 5)).heap.size = W.heap.size + 1 := World.size_alloc _ _
          have Fc : Fr All W (W.alloc (.cells #[] 5)).drew := ((Fr.refl All W).alloc _).drew
          have Fa : Fr All W ((W.alloc (.cells #[] 5)).alloc (.cells #[.int .u8 (j : Int)] 5)).drew := (((Fr.refl All W).alloc _).alloc _).drew
          have Fb : Fr All W ((W.alloc (.cells #[.int .u8 (j : Int)] 5)).alloc (.cells #[] 5)).drew := (((Fr.refl All W).alloc _).alloc _).drew
          have HOc : Own kByte 5 W.heap.size Nowhere (W.alloc (.cells #[] 5)).drew (.slice (some ⟨W.heap.size, 0, none⟩) 0 0) [] := (Own.box0 (d := kByte) (S := Nowhere) (w := W) 5 (Nat.le_refl _)).all (Fr.refl All _).drew
          have HOa : Own kByte 5 W.heap.size Nowhere ((W.alloc (.cells #[] 5)).alloc (.cells #[.int .u8 (j : Int)] 5)).drew (.slice (some ⟨W.heap.size, 0, none⟩) 0 0) [] := (Own.box0 (d := kByte) (S := Nowhere) (w := W) 5 (Nat.le_refl _)).all ((Fr.refl All _).alloc _).drew
          have HOb : Own kByte 5 W.heap.size Nowhere ((W.alloc (.cells #[.int .u8 (j : Int)] 5)).alloc (.cells #[] 5)).drew (.slice (some ⟨W.heap.size + 1, 0, none⟩) 0 0) [] := by
            have h1 := (Own.box0 (d := kByte) (S := Nowhere) (base := W.heap.size) (w := W.alloc (.cells #[.int .u8 (j : Int)] 5)) 5 (by omega)).all (Fr.refl All _).drew
            rwa [sz2] at h1
          have HTc : Src kByte Nowhere (W.alloc (.cells #[] 5)).drew (.slice B m d) (bs.take m) := (HT.all Fc).src.any
          have HTa : Src kByte Nowhere ((W.alloc (.cells #[] 5)).alloc (.cells #[.int .u8 (j : Int)] 5)).drew (.slice B m d) (bs.take m) := (HT.all Fa).src.any
          have HTb : Src kByte Nowhere ((W.alloc (.cells #[.int .u8 (j : Int)] 5)).alloc (.cells #[] 5)).drew (.slice B m d) (bs.take m) := (HT.all Fb).src.any
          have HJa : Sl kByte (fun b => b ≠ W.heap.size) ((W.alloc (.cells #[] 5)).alloc (.cells #[.int .u8 (j : Int)] 5)).drew (.slice (some ⟨W.heap.size + 1, 0, none⟩) 1 1) [UInt8.ofNat j] := by
            have h1 := (HY (W.alloc (.cells #[] 5)) (fun b => b ≠ W.heap.size) (by omega)).all (Fr.refl All _).drew
            rwa [sz1] at h1
          have HJb : Sl kByte (fun b => b ≠ W.heap.size + 1) ((W.alloc (.cells #[.int .u8 (j : Int)] 5)).alloc (.cells #[] 5)).drew (.slice (some ⟨W.heap.size, 0, none⟩) 1 1) [UInt8.ofNat j] := (HY W (fun b => b ≠ W.heap.size + 1) (by omega)).all ((Fr.refl All _).alloc _).drew
          have hl5 : (([] : List UInt8).length + (bs.take m).length) * 1 ≤ 140737488355328 := by simp only [List.length_nil, List.length_take]; omega
          have hl6 : (([] ++ bs.take m).length + [UInt8.ofNat j].length) * 1 ≤ 140737488355328 := by simp only [List.nil_append, List.length_take, List.length_cons, List.length_nil]; omega
          have hl7 : (([] ++ bs.take m ++ [UInt8.ofNat j]).length + (bs.drop m).length) * 1 ≤ 140737488355328 := by simp only [List.nil_append, List.length_append, List.length_take, List.length_drop, List.length_cons, List.length_nil]; omega
          clear HT
          have hw5 : IntKind.u8.wrap (j : Int) = (j : Int) := IntWalk.u8_in _ (by omega)
          go_upto_region 21 with (fail)
          go_region_held3 (fun _ => True) (trivial) (first
            | (
                with_reducible refine step_of ?_ ?_
                · rfl
                refine wp_app rfl Try.underlying28 info_u8 rfl (by decide) HOc HTc rfl rfl (fun _ h _ => h.elim) hl5 Fc.size ?_
                intro u5 w5 h3 h4 h5
                have F5 : Fr All W w5 := Fc.row h4.grown (fun k hk => Nat.le_of_eq (Option.some.inj hk)))
            | (
                with_reducible refine step_of ?_ ?_
                · rfl
                refine wp_app rfl Try.underlying28 info_u8 rfl (by decide) HOa HTa rfl rfl (fun _ h _ => h.elim) hl5 Fa.size ?_
                intro u5 w5 h3 h4 h5
                have F5 : Fr All W w5 := Fa.row h4.grown (fun k hk => Nat.le_of_eq (Option.some.inj hk))
                have HJ5 : Src kByte Nowhere w5 (.slice (some ⟨W.heap.size + 1, 0, none⟩) 1 1) [UInt8.ofNat j] := (HJa.move' h4 (fun b hb _ hh => hb (Option.some.inj hh))).src.any)
            | (
                with_reducible refine step_of ?_ ?_
                · rfl
                refine wp_app rfl Try.underlying28 info_u8 rfl (by decide) HOb HTb rfl rfl (fun _ h _ => h.elim) hl5 Fb.size ?_
                intro u5 w5 h3 h4 h5
                have F5 : Fr All W w5 := Fb.row h4.grown (fun k hk => Nat.le_trans (Nat.le_succ _) (Nat.le_of_eq (Option.some.inj hk)))
                have HJ5 : Src kByte Nowhere w5 (.slice (some ⟨W.heap.size, 0, none⟩) 1 1) [UInt8.ofNat j] := (HJb.move' h4 (fun b hb _ hh => hb (Option.some.inj hh))).src.any)
            | (
                with_reducible refine step_of ?_ ?_
                · rfl
                refine wp_app rfl Try.underlying28 info_u8 rfl (by decide) h3 HJ5 rfl rfl (fun _ h _ => h.elim) hl6 F5.size ?_
                intro u6 w6 h6 h7 h8
                have F6 : Fr All W w6 := F5.row h7.grown (fun k hk => (own_lt h3 k hk).1)
                have HD6 : Src kByte Nowhere w6 (.slice B2 (bs.length - m) (d - m)) (bs.drop m) := (HD.all F6).src.any)
            | (
                with_reducible refine step_of ?_ ?_
                · rfl
                have h3' : Own kByte 5 W.heap.size Nowhere (w5.alloc (.cells #[.int .u8 (j : Int)] 5)) u5 ([] ++ bs.take m) := h3.all ((Fr.refl All w5).alloc (.cells #[.int .u8 (j : Int)] 5))
                have HJ5 : Src kByte Nowhere (w5.alloc (.cells #[.int .u8 (j : Int)] 5)) (.slice (some ⟨w5.heap.size, 0, none⟩) 1 1) [UInt8.ofNat j] := (HY w5 All trivial).src.any
                have hs5 : W.heap.size ≤ (w5.alloc (.cells #[.int .u8 (j : Int)] 5)).heap.size := (F5.alloc _).size
                refine wp_app rfl Try.underlying28 info_u8 rfl (by decide) h3' HJ5 rfl rfl (fun _ h _ => h.elim) hl6 hs5 ?_
                intro u6 w6 h6 h7 h8
                have F6 : Fr All W w6 := (F5.alloc (.cells #[.int .u8 (j : Int)] 5)).row h7.grown (fun k hk => (own_lt h3 k hk).1)
                have HD6 : Src kByte Nowhere w6 (.slice B2 (bs.length - m) (d - m)) (bs.drop m) := (HD.all F6).src.any)
            | (
                with_reducible refine step_of ?_ ?_
                · rfl
                refine wp_app rfl Try.underlying28 info_u8 rfl (by decide) h6 HD6 rfl rfl (fun _ h _ => h.elim) hl7 F6.size ?_
                intro u7 w7 h9 h10 h11
                have F7 : Fr All W w7 := F6.row h10.grown (fun k hk => (own_lt h6 k hk).1)))
          all_goals
            have hbs6 : [] ++ bs.take m ++ [UInt8.ofNat j] ++ bs.drop m = bs' := by rw [Hbs.out, shaped, if_neg (by rw [hr]; exact hr0), if_pos hlb, Hm.out, List.nil_append, List.append_assoc]; rfl
            rw [hbs6] at h9
            obtain ⟨B6, d6, rfl⟩ := h9.length
            have HB6 : Sl kByte (fun b => b ≠ w2.heap.size) w7 (.slice B6 bs'.length d6) bs' := h9.plain_in (fun b hb hl => by omega)
            have e0 := F7.cell trivial a0
            have e1 := F7.cell trivial a1
            have e2 := F7.cell trivial a2
            have e3 := F7.cell trivial a3
            have e4 := F7.cell trivial a4
            have ez : ∀ j, w7.frozen? ⟨w2.heap.size, j, none⟩ = false := fun j => (World.frozen?_of_block (a := ⟨w2.heap.size, j, none⟩) (F7.block _ (by dsimp only; omega) trivial)).trans (az j)
            have HE6 := HE.all F7
            have HF6 := HFW.then_all F7
            clear h3 h4 h5 h6 h7 h8 h9 h10 h11 F5 F6 F7 HD HD6 hB2 HOa HOb HOc HTa HTb HTc HJa HJb HY hl5 hl6 hl7 Fa Fb Fc sz1 sz2 hw4 hw5 a0 a1 a2 a3 a4 az kd' hbs6 q1 q3 q6 q8 q9 hml hdc hlb hlb' hmin hmin' HB HE
            have z6 : w2.heap.size < w7.heap.size := World.block_lt_of_cell? _ _ e0
            clear hr hrb hw2 hwn
            go_wp2_with fail
            go_loopw [9] (fun q wq => ∃ t : Nat, t ≤ bs'.length ∧ q = .int .i64 t ∧ Fr All w7 wq) (fun q _ => bs'.length - (intOf q).toNat)
            case atStart => exact ⟨0, Nat.zero_le _, rfl, Fr.refl _ _⟩
            case round =>
              obtain ⟨t, ht, rfl, HQ⟩ := hrel
              have g4 := HQ.cell trivial e4
              by_cases htl : t < bs'.length
              · obtain ⟨y, hy, _⟩ := get_of (l := bs') (k := t) htl
                have hy' : (ones bs')[t]? = some ⟨[y], []⟩ := by rw [ones, List.getElem?_map, hy]; rfl
                obtain ⟨eb, eo, K0, m0, k0, K1, m1, k1, hA4, x0, x1, l0, l1⟩ := ent_at (HE6.all HQ) hy'
                obtain ⟨pb, po, hB6, py⟩ := (HB6.all HQ).at1 hy
                have hm0 : 1 = m0 := l0.len
                obtain ⟨kb, ko, hK0, ky⟩ := l0.at1 (k := 0) (x := y) rfl
                rw [Nat.add_zero] at ky
                subst hA4 hB6 hK0 hm0
                have b0 : (0 : Int) ≤ (t : Int) := by omega
                have b1 : (t : Int) < (bs'.length : Int) := by omega
                clear hy hy' l0 l1
                go_wp2_with fail
                go_quiet (fail)
                go_wp2_with fail
                go_roundw
                case rel => exact ⟨t + 1, by omega, by go_num, by first | exact HQ.drewN _ | exact HQ⟩
                case measure => simp [intOf]; omega
              · have hge : bs'.length ≤ t := by omega
                clear htl ht
                go_wp2_with fail
                go_roundw
                case rel =>
                  refine ⟨j + 1, bs', _, _, _, _, by omega, by go_num, rfl, hb8', HB6.all HQ, HE6.all HQ, HF6.trans HQ, HQ.cell trivial e0, ?_, HQ.cell trivial e2, HQ.cell trivial e3, g4, fun q => (World.frozen?_of_block (a := ⟨w2.heap.size, q, none⟩) (HQ.block _ (by dsimp only; omega) trivial)).trans (ez q)⟩
                  rw [show ((j + 1 : Nat) : Int) = (j : Int) + 1 by omega]
                  exact HQ.cell trivial e1
                case measure => simp [intOf]; omega
        · have hlb' : decide ((bs.length : Int) < 8) = false := decide_eq_false (by omega)
          go_upto_region 22 with (fail)
          obtain rfl : bs' = bs := by rw [Hbs.out, shaped, if_neg (by rw [hr]; exact hr0), if_neg hlb]
          have e0 := a0
          have e1 := a1
          have e2 := a2
          have e3 := a3
          have e4 := a4
          have ez := az
          have HB6 := HB
          have HE6 := HE
          have HF6 := HFW
          clear a0 a1 a2 a3 a4 az HB HE HFW
          have z6 : w2.heap.size < W.heap.size := World.block_lt_of_cell? _ _ e0
          clear hr hrb hw2 hwn
          go_wp2_with fail
          go_loopw [9] (fun q wq => ∃ t : Nat, t ≤ bs'.length ∧ q = .int .i64 t ∧ Fr All W wq) (fun q _ => bs'.length - (intOf q).toNat)
          case atStart => exact ⟨0, Nat.zero_le _, rfl, Fr.refl _ _⟩
          case round =>
            obtain ⟨t, ht, rfl, HQ⟩ := hrel
            have g4 := HQ.cell trivial e4
            by_cases htl : t < bs'.length
            · obtain ⟨y, hy, _⟩ := get_of (l := bs') (k := t) htl
              have hy' : (ones bs')[t]? = some ⟨[y], []⟩ := by rw [ones, List.getElem?_map, hy]; rfl
              obtain ⟨eb, eo, K0, m0, k0, K1, m1, k1, hA4, x0, x1, l0, l1⟩ := ent_at (HE6.all HQ) hy'
              obtain ⟨pb, po, hB6, py⟩ := (HB6.all HQ).at1 hy
              have hm0 : 1 = m0 := l0.len
              obtain ⟨kb, ko, hK0, ky⟩ := l0.at1 (k := 0) (x := y) rfl
              rw [Nat.add_zero] at ky
              subst hA4 hB6 hK0 hm0
              have b0 : (0 : Int) ≤ (t : Int) := by omega
              have b1 : (t : Int) < (bs'.length : Int) := by omega
              clear hy hy' l0 l1
              go_wp2_with fail
              go_quiet (fail)
              go_wp2_with fail
              go_roundw
              case rel => exact ⟨t + 1, by omega, by go_num, by first | exact HQ.drewN _ | exact HQ⟩
              case measure => simp [intOf]; omega
            · have hge : bs'.length ≤ t := by omega
              clear htl ht
              go_wp2_with fail
              go_roundw
              case rel =>
                refine ⟨j + 1, bs', _, _, _, _, by omega, by go_num, rfl, hb8', HB6.all HQ, HE6.all HQ, HF6.trans HQ, HQ.cell trivial e0, ?_, HQ.cell trivial e2, HQ.cell trivial e3, g4, fun q => (World.frozen?_of_block (a := ⟨w2.heap.size, q, none⟩) (HQ.block _ (by dsimp only; omega) trivial)).trans (ez q)⟩
                rw [show ((j + 1 : Nat) : Int) = (j : Int) + 1 by omega]
                exact HQ.cell trivial e1
              case measure => simp [intOf]; omega
    · obtain rfl : j = n := by omega
      go_wp2_with fail
      go_ret
      exact ⟨rfl, F2.trans HF⟩
end Go.Proofs.Ytblogahililddaa
