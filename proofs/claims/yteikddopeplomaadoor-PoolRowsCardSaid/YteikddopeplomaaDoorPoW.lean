/- The walk of the law that a record goes to its page alone. -/
import Derived.Test.YteikddopeplomaaDoorPkA
import Derived.Test.YteikddopeplomaaDoorDkL
import Derived.Test.YteikddopeplomaaDoorSameI
import Derived.Test.YteikddopeplomaaDoorNum
namespace Go.Proofs.YteikddopeplomaaDoor
open Go.RowKit Go.Maps

theorem int_box (w : World) (n : Int) : Sl kInt (fun x => w.heap.size ≤ x) (w.alloc (.cells #[.int .i64 n] 3)) (.slice (some ⟨w.heap.size, 0, none⟩) 1 1) [n] :=
  (Own.lay (d := kInt) (e := 3) (S := All) (w := w) (reps_plain [n]) (Nat.le_refl _) (by simp only [maxLen, List.length_singleton]; omega)).plain_in fun _ hb _ => hb

/-- A pool that a walk made itself. -/
structure PHeld (w0 w : World) (B l t : Nat) (s : PSt) : Prop where
  pk : Pk w B l t s
  l0 : w0.heap.size ≤ B
  l1 : w0.heap.size ≤ l
  l2 : w0.heap.size ≤ t
  fr : Fr All w0 w
theorem PHeld.all {w0 w w' : World} {B l t : Nat} {s : PSt} (h : PHeld w0 w B l t s) (f : Fr All w w') : PHeld w0 w' B l t s := ⟨h.pk.all f, h.l0, h.l1, h.l2, h.fr.then_all f⟩
theorem PHeld.off {w0 w w' : World} {B l t : Nat} {s s' : PSt} (h : PHeld w0 w B l t s) (f : Fr (Off B l t) w w') (d : Pk w' B l t s') : PHeld w0 w' B l t s' :=
  ⟨d, h.l0, h.l1, h.l2, h.fr.over f fun x hx => ⟨by have := h.l0; omega, by have := h.l1; omega, by have := h.l2; omega⟩⟩
def PSt.new : PSt := ⟨fun _ => none, 0, fun _ => none, 0⟩

set_option maxRecDepth 100000 in
set_option maxHeartbeats 1000000 in
theorem first20_call (w : World) : Calls Tryd.prog 13 #[] w fun e w' => e = .returned (.bool true) ∧ Fr All w w' := by
  go_enter Tryd.func13, Tryd.ntmps13
  go_wp2_with fail
  refine (pool_new w).mono ?_
  rintro e w1 ⟨B, l, t, rfl, l0, l1, l2, h1, f1⟩
  have H1 : Hid (PHeld w w1 B l t .new) := Lib.hid ⟨h1, l0, l1, l2, f1⟩
  clear h1 f1
  go_wp2_with fail
  refine (pool_get_none H1.out.pk (i := 3) (by omega) (by omega) rfl (by simp [PSt.new])).mono ?_
  rintro e w2 ⟨rfl, h2, f2⟩
  have H2 := Lib.hid ((H1.out.off f2 h2).all ((Fr.refl All w2).alloc (.cells #[.int .i64 0, .int .i64 0, .int .i64 0, .int .i64 0, .slice none 0 0] 24)))
  clear h2 f2
  go_wp2_with fail
  refine (pool_wants H2.out.pk (by simp [PSt.want, PSt.new])).mono ?_
  rintro e w3 ⟨A, c, ks, rfl, hkl, _, hm, ho, f3⟩
  have hnw : (PSt.want .new 3).nw = 1 := rfl
  rw [hnw] at hkl ho ⊢
  have hks : ks = [3] := by
    match ks, hkl with
    | [k], _ =>
      have h4 := ((hm k).1 List.mem_cons_self).2
      have h5 : (if k = 3 then some () else none : Option Unit).isSome = true := h4
      split at h5
      · rename_i e
        rw [e]
      · cases h5
  subst hks
  have H3 := Lib.hid (H2.out.all f3)
  have F4 := (Fr.refl All w3).alloc (.cells #[.int .i64 3] 3)
  have HO := Lib.hid (ho.all F4)
  have HI := Lib.hid (int_box w3 3)
  have HF := Lib.hid (H3.out.all F4)
  have hdd : decide (([3] : List Int) = [3]) = true := rfl
  clear hkl hm ho f3 hnw F4
  go_wp2_with fail
  refine (same_ints HO.out HI.out (by simp)).mono ?_
  rintro e w5 ⟨rfl, f5⟩
  go_wp2_with fail
  go_ret
  exact ⟨rfl, HF.out.fr.trans f5⟩

theorem valid_fmt {id : Int} (h0 : 0 ≤ id) (h1 : id < 256) : validIx ⟨3, 0, 0, 0, id, 1, 0, [1], [], false⟩ = none := by
  unfold validIx
  simp [inB, h0, h1]

set_option hygiene false in
set_option maxRecDepth 100000 in
set_option maxHeartbeats 4000000 in
theorem applies_walk {w : World} (a b c : Int) :
    Calls Tryd.prog 11 #[.int .i64 a, .int .i64 b, .int .i64 c] w fun e w' => e = .returned (.bool true) ∧ Fr All w w' := by
  go_enter Tryd.func11, Tryd.ntmps11
  go_wp2_with fail
  refine (first20_call w).mono ?_
  rintro e w1 ⟨rfl, f1⟩
  go_wp2_with fail
  refine (number w1 (by omega) (by omega)).mono ?_
  rintro e wn ⟨i0, hi0, rfl, hwn⟩
  obtain rfl := hwn.symm
  obtain ⟨id, hid⟩ : ∃ id : Int, (i0 : Int) = id := ⟨_, rfl⟩
  rw [hid] at hi0 ⊢
  have hid0 : 0 ≤ id := by omega
  clear hid
  go_wp2_with fail
  refine (number w1 (by omega) (by omega)).mono ?_
  rintro e wn ⟨o0, ho0, rfl, hwn⟩
  obtain rfl := hwn.symm
  obtain ⟨oth, hoth⟩ : ∃ oth : Int, (o0 : Int) = oth := ⟨_, rfl⟩
  rw [hoth] at ho0 ⊢
  have hoth0 : 0 ≤ oth := by omega
  clear hoth
  go_wp2_with fail
  refine (number w1 (by omega) (by omega)).mono ?_
  rintro e wn ⟨k0, hk0, rfl, hwn⟩
  obtain rfl := hwn.symm
  obtain ⟨kk, hkk⟩ : ∃ kk : Int, (k0 : Int) + 1 = kk := ⟨_, rfl⟩
  have hw : IntKind.i64.wrap ((k0 : Int) + 1) = kk := by rw [IntWalk.i64_in _ (by omega)]; exact hkk
  have hkb : 1 ≤ kk ∧ kk ≤ 6 := by omega
  clear hkk
  go_wp2_with fail
  refine (pool_new w1).mono ?_
  rintro e w2 ⟨B, l, t, rfl, l0, l1, l2, h2, f2⟩
  have H2 : Hid (PHeld w1 w2 B l t .new) := Lib.hid ⟨h2, l0, l1, l2, f2⟩
  have g0 := h2.lt
  have g1 := h2.hv.lt
  have g2 := h2.tv.lt
  clear h2 f2 hw
  have FB := (Fr.refl All w2).alloc (.cells #[.int .u8 1] 5)
  have HB := Lib.hid (byte_box w2 1)
  have H3 := Lib.hid (H2.out.all FB)
  have hin : In64 id := in64_of (by omega) (by omega)
  have hino : In64 oth := in64_of (by omega) (by omega)
  have HIN := Lib.hid hin
  have HINO := Lib.hid hino
  clear FB hin hino
  by_cases hk1 : kk = 1
  · subst hk1
    go_wp2_with fail
    refine (apply_new (r := ⟨3, 0, 0, 0, id, 1, 0, [1], [], false⟩) H3.out.pk HIN.out rfl rfl (valid_fmt hid0 hi0) (fun x (hx : w2.heap.size ≤ x) _ => by omega) (fun x (hx : Nowhere x) _ => hx.elim) HB.out (Sl.nil_ _ _ _) (by simp) (by simp) (by simp) (by simp [PSt.new])).mono ?_
    rintro e w4 ⟨rfl, h4, f4⟩
    have hp1 : papply ⟨id, 0, 0, -1, []⟩ ⟨3, 0, 0, 0, id, 1, 0, [1], [], false⟩ = ⟨id, 3, 0, -1, []⟩ := by simp [papply]
    rw [hp1] at h4
    obtain ⟨s4, hs4⟩ : ∃ s4, (PSt.new.unwant id).has id ⟨id, 3, 0, -1, []⟩ = s4 := ⟨_, rfl⟩
    have a1 : s4.have_ id = some ⟨id, 3, 0, -1, []⟩ := by rw [← hs4]; simp [PSt.has, gput]
    have a2 : s4.nh = 1 := by rw [← hs4]; rfl
    have a3 : ∀ k, k ≠ id → s4.have_ k = none := fun k hk => by rw [← hs4]; simp [PSt.has, PSt.unwant, PSt.new, gput, hk]
    have h4' : Pk w4 B l t s4 := hs4 ▸ h4
    have H4 : Hid (PHeld w1 w4 B l t s4) := Lib.hid (H3.out.off f4 h4')
    have hln := pool_len h4'
    rw [a2] at hln
    have HLN := Lib.hid hln
    have B1 := Lib.hid a1
    have B2 := Lib.hid a2
    have B3 := Lib.hid a3
    clear h4 h4' f4 hp1 hs4 hln a1 a2 a3
    go_wp2_with fail
    refine HLN.out.mono ?_
    rintro e wn ⟨rfl, hwn⟩
    obtain rfl := hwn.symm
    have FB4 := (Fr.refl All w4).alloc (.cells #[.int .u8 7] 5)
    have HB7 := Lib.hid (byte_box w4 7)
    have H5 := Lib.hid (H4.out.all FB4)
    clear FB4
    go_wp2_with fail
    refine (apply_some (r := ⟨4, 0, 0, 0, id, 2, 0, [7], [], false⟩) H5.out.pk HIN.out B1.out ⟨by simp, by simp⟩ HB7.out (Sl.nil_ _ All _) (by simp) (by simp) (by simp) (by rw [B2.out]; omega)).mono ?_
    rintro e w6 ⟨rfl, h6, f6⟩
    have hp2 : papply ⟨id, 3, 0, -1, []⟩ ⟨4, 0, 0, 0, id, 2, 0, [7], [], false⟩ = ⟨id, 4, 0, -1, [⟨[7], []⟩]⟩ := by simp [papply]
    rw [hp2] at h6
    obtain ⟨s6, hs6⟩ : ∃ s6, s4.has id ⟨id, 4, 0, -1, [⟨[7], []⟩]⟩ = s6 := ⟨_, rfl⟩
    have a1 : s6.have_ id = some ⟨id, 4, 0, -1, [⟨[7], []⟩]⟩ := by rw [← hs6]; simp [PSt.has, gput]
    have a3 : ∀ k, k ≠ id → s6.have_ k = none := fun k hk => by
      rw [← hs6]
      show gput s4.have_ id _ k = none
      rw [gput, if_neg hk]
      exact B3.out k hk
    have h6' : Pk w6 B l t s6 := hs6 ▸ h6
    have H6 : Hid (PHeld w1 w6 B l t s6) := Lib.hid (H5.out.off f6 h6')
    have B6 := Lib.hid a1
    have B7 := Lib.hid a3
    clear h6 h6' f6 hp2 hs6 a1 a3
    go_wp2_with fail
    refine (pool_get_some H6.out.pk HIN.out B6.out ⟨by simp, by simp⟩).mono ?_
    rintro e w7 ⟨A7, c7, rfl, h7, f7⟩
    dsimp only [List.length_cons, List.length_nil]
    have H7 := Lib.hid ((H6.out.all f7).all ((Fr.refl All w7).alloc (.cells #[.int .i64 id, .int .i64 4, .int .i64 0, .int .i64 (-1), .slice A7 1 c7] 24)))
    clear h7 f7
    cases ho : (oth == id) with
    | true =>
      go_wp2_with fail
      go_ret
      exact ⟨rfl, f1.trans H7.out.fr⟩
    | false =>
      have hne : oth ≠ id := ne_of_beq_false ho
      have HNE := Lib.hid (B7.out oth hne)
      clear hne
      go_wp2_with fail
      refine (apply_no (r := ⟨5, 0, 0, 0, oth, 3, 0, [], [], false⟩) H7.out.pk HINO.out HNE.out (show (3 : Int) ≠ 1 by decide)).mono ?_
      rintro e w8 ⟨rfl, h8, f8⟩
      have H8 := Lib.hid (H7.out.all f8)
      clear h8 f8
      go_wp2_with fail
      go_ret
      exact ⟨rfl, f1.trans H8.out.fr⟩
  · have hkn : (kk == 1) = false := beq_false_of_ne hk1
    go_wp2_with fail
    refine (apply_no (r := ⟨3, 0, 0, 0, id, kk, 0, [1], [], false⟩) H3.out.pk HIN.out rfl hk1).mono ?_
    rintro e w4 ⟨rfl, h4, f4⟩
    have H4 := Lib.hid (H3.out.all f4)
    clear h4 f4 hk1
    go_wp2_with fail
    refine (pool_len H4.out.pk).mono ?_
    rintro e wn ⟨rfl, hwn⟩
    obtain rfl := hwn.symm
    rw [show PSt.new.nh = 0 from rfl]
    go_wp2_with fail
    refine (pool_wants H4.out.pk (by simp [PSt.new])).mono ?_
    rintro e w5 ⟨A, c5, ks, rfl, hkl, _, hm, ho, f5⟩
    rw [show PSt.new.nw = 0 from rfl]
    have H5 := Lib.hid (H4.out.all f5)
    clear hkl hm ho f5
    go_wp2_with fail
    go_ret
    exact ⟨rfl, f1.trans H5.out.fr⟩
end Go.Proofs.YteikddopeplomaaDoor
