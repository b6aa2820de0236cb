/- A pool that a walk made itself; the chapter's first example. -/
import Derived.Test.YtppjpfgjophgkaaDoorPkA
import Derived.Test.YtppjpfgjophgkaaDoorSameI
namespace Go.Proofs.YtppjpfgjophgkaaDoor
open Go.RowKit Go.Maps

theorem Fr.over2 {S : Nat → Prop} {w0 w w' : World} (h : Fr All w0 w) (k : Fr S w w') (hs : ∀ x, x < w0.heap.size → S x) : Fr All w0 w' :=
  ⟨k.os.trans h.os, k.tape.trans h.tape, k.output.trans h.output, Nat.le_trans h.size k.size, fun b hb _ => (k.block b (Nat.lt_of_lt_of_le hb h.size) (hs b hb)).trans (h.block b hb trivial)⟩
theorem int_box (w : World) (n : Int) : Sl kInt (fun x => w.heap.size ≤ x) (w.alloc (.cells #[.int .i64 n] 3)) (.slice (some ⟨w.heap.size, 0, none⟩) 1 1) [n] :=
  (Own.lay (d := kInt) (e := 3) (S := All) (w := w) (reps_plain [n]) (Nat.le_refl _) (by simp only [maxLen, List.length_singleton]; omega)).plain_in fun _ hb _ => hb

/-- A pool that a walk made itself. -/
structure PHeld (w0 w : World) (B l t : Nat) (s : PSt) : Prop where
  pk : Pk (fun _ => False) w B l t s
  l0 : w0.heap.size ≤ B
  l1 : w0.heap.size ≤ l
  l2 : w0.heap.size ≤ t
  fr : Fr All w0 w
theorem PHeld.all {w0 w w' : World} {B l t : Nat} {s : PSt} (h : PHeld w0 w B l t s) (f : Fr All w w') : PHeld w0 w' B l t s := ⟨h.pk.all f, h.l0, h.l1, h.l2, h.fr.then_all f⟩
theorem PHeld.off {w0 w w' : World} {B l t : Nat} {s s' : PSt} (h : PHeld w0 w B l t s) (f : Fr (Off B l t) w w') (d : Pk (fun _ => False) w' B l t s') : PHeld w0 w' B l t s' :=
  ⟨d, h.l0, h.l1, h.l2, Fr.over2 h.fr f fun x hx => ⟨by have := h.l0; omega, by have := h.l1; omega, by have := h.l2; omega⟩⟩
def PSt.new : PSt := ⟨fun _ => none, 0, fun _ => none, 0⟩

set_option maxRecDepth 100000 in
set_option maxHeartbeats 1000000 in
theorem first20_call (w : World) : Calls Tryd.prog 4 #[] w fun e w' => e = .returned (.bool true) ∧ Fr All w w' := by
  go_enter Tryd.func4, Tryd.ntmps4
  go_wp2_with fail
  refine (pool_new w).mono ?_
  rintro e w1 ⟨B, l, t, rfl, l0, l1, l2, h1, f1⟩
  have H1 : Hid (PHeld w w1 B l t .new) := Lib.hid ⟨h1, l0, l1, l2, f1⟩
  clear h1 f1
  go_wp2_with fail
  refine (pool_get_none H1.out.pk (i := 3) (by omega) (by omega) rfl (by simp [PSt.new])).mono ?_
  rintro e w2 ⟨rfl, h2, f2⟩
  have H2 := Lib.hid ((H1.out.off f2 h2).all ((Fr.refl All w2).alloc (.cells #[.int .i64 0, .int .i64 0, .int .i64 0, .int .i64 0, .slice none 0 0] 30)))
  clear h2 f2
  go_wp2_with fail
  refine (pool_wants H2.out.pk (by simp [PSt.want, PSt.new])).mono ?_
  rintro e w3 ⟨A, c, ks, rfl, hkl, _, hm, ho, f3⟩
  have hnw : (PSt.want .new 3).nw = 1 := rfl
  rw [hnw] at hkl ho ⊢
  have hks : ks = [3] := by
    match ks, hkl with
    | [k], _ =>
      have h4 := ((hm k).1 List.mem_cons_self).2
      have h5 : (if k = 3 then some () else none : Option Unit).isSome = true := h4
      split at h5
      · rename_i e
        rw [e]
      · cases h5
  subst hks
  have H3 := Lib.hid (H2.out.all f3)
  have F4 := (Fr.refl All w3).alloc (.cells #[.int .i64 3] 3)
  have HO := Lib.hid (ho.all F4)
  have HI := Lib.hid (int_box w3 3)
  have HF := Lib.hid (H3.out.all F4)
  have hdd : decide (([3] : List Int) = [3]) = true := rfl
  clear hkl hm ho f3 hnw F4
  go_wp2_with fail
  refine (same_ints HO.out HI.out (by simp)).mono ?_
  rintro e w5 ⟨rfl, f5⟩
  go_wp2_with fail
  go_ret
  exact ⟨rfl, HF.out.fr.trans f5⟩

end Go.Proofs.YtppjpfgjophgkaaDoor
