/- The disk's functions: Read, Sync, Erase, the small ones. -/
import Derived.Test.YteikddopeplomaaDoorDkW
namespace Go.Proofs.YteikddopeplomaaDoor
open Go.RowKit Go.Maps

theorem blocks_call {w : World} {B bs bp : Nat} {s : DSt} (h : Dk w B bs bp s) : Calls Tryd.prog 25 #[.pointer (some ⟨B, 0, none⟩)] w fun e w' => e = .returned (.int .i64 s.blocks) ∧ w' = w := by
  have c := h.c0
  clear h
  go_enter Tryd.func25, Tryd.ntmps25
  go_wp2_with fail
  go_ret
  exact ⟨rfl, rfl⟩

theorem calls_call {w : World} {B bs bp : Nat} {s : DSt} (h : Dk w B bs bp s) : Calls Tryd.prog 29 #[.pointer (some ⟨B, 0, none⟩)] w fun e w' => e = .returned (.int .i64 s.calls) ∧ w' = w := by
  have c := h.c3
  clear h
  go_enter Tryd.func29, Tryd.ntmps29
  go_wp2_with fail
  go_ret
  exact ⟨rfl, rfl⟩

theorem down_call {w : World} {B bs bp : Nat} {s : DSt} (h : Dk w B bs bp s) : Calls Tryd.prog 40 #[.pointer (some ⟨B, 0, none⟩)] w fun e w' => e = .returned (.bool s.down) ∧ w' = w := by
  have c := h.c5
  clear h
  go_enter Tryd.func40, Tryd.ntmps40
  go_wp2_with fail
  go_ret
  exact ⟨rfl, rfl⟩

theorem pending_call {w : World} {B bs bp : Nat} {s : DSt} (h : Dk w B bs bp s) : Calls Tryd.prog 28 #[.pointer (some ⟨B, 0, none⟩)] w fun e w' => e = .returned (.int .i64 (s.np : Int)) ∧ w' = w := by
  have c := h.c2
  have hl := h.pen.len Tryd.underlying103 3
  clear h
  go_enter Tryd.func28, Tryd.ntmps28
  go_wp2_with fail
  go_ret
  exact ⟨rfl, rfl⟩

/-- What a block has. -/
def DSt.get (s : DSt) (i : Int) : Option (List UInt8) := s.pen i <|> s.syn i

set_option maxRecDepth 100000 in
set_option maxHeartbeats 1000000 in
theorem read_call {w : World} {B bs bp : Nat} {s : DSt} {i : Int} (h : Dk w B bs bp s) (hd : s.down = false) (h0 : 0 ≤ i) (h1 : i < s.blocks) (hb : s.blocks ≤ 16384) (hl : ∀ xs, s.get i = some xs → xs.length ≤ 1000000) :
    Calls Tryd.prog 27 #[.pointer (some ⟨B, 0, none⟩), .int .i64 i] w fun e w' => ∃ A n c xs, e = .returned (.tuple #[.slice A n c, .bool (s.get i).isSome, .nilIface]) ∧ xs = (s.get i).getD [] ∧ Own kByte 5 w.heap.size All w' (.slice A n c) xs ∧ Fr All w w' := by
  have c0 := h.c0
  have c1 := h.c1
  have c2 := h.c2
  have c5 := h.c5
  rw [hd] at c5
  have d1 : decide (i < 0) = false := decide_eq_false (by omega)
  have d2 : decide (i ≥ s.blocks) = false := decide_eq_false (by omega)
  have hi64 : In64 i := in64_of (by omega) (by omega)
  cases hp : s.pen i with
  | some xs =>
    obtain ⟨A, l, c, hr, hs, hlen⟩ := h.pen.look_some Tryd.underlying3 Tryd.underlying103 zeroRow hi64 hp
    have hg : s.get i = some xs := by simp [DSt.get, hp]
    have hx := hl xs hg
    have HG := Lib.hid hg
    clear h hd hp hl hg
    go_enter Tryd.func27, Tryd.ntmps27
    go_wp2_with fail
    refine (clone_bytes hs (by omega)).mono ?_
    rintro e w1 ⟨A1, k1, rfl, o1, f1⟩
    go_wp2_with fail
    go_ret3
    rw [HG.out]
    exact ⟨A1, _, k1, xs, rfl, rfl, hlen ▸ o1, f1⟩
  | none =>
    have hr := h.pen.look_none Tryd.underlying3 Tryd.underlying103 zeroRow hi64 hp
    cases hq : s.syn i with
    | some xs =>
      obtain ⟨A, l, c, hr2, hs, hlen⟩ := h.syn.look_some Tryd.underlying3 Tryd.underlying103 zeroRow hi64 hq
      have hg : s.get i = some xs := by simp [DSt.get, hp, hq]
      have hx := hl xs hg
      have HG := Lib.hid hg
      clear h hd hp hl hg hq
      go_enter Tryd.func27, Tryd.ntmps27
      go_wp2_with fail
      refine (clone_bytes hs (by omega)).mono ?_
      rintro e w1 ⟨A1, k1, rfl, o1, f1⟩
      go_wp2_with fail
      go_ret3
      rw [HG.out]
      exact ⟨A1, _, k1, xs, rfl, rfl, hlen ▸ o1, f1⟩
    | none =>
      have hr2 := h.syn.look_none Tryd.underlying3 Tryd.underlying103 zeroRow hi64 hq
      have hg : s.get i = none := by simp [DSt.get, hp, hq]
      have HG := Lib.hid hg
      clear h hd hp hl hg hq
      go_enter Tryd.func27, Tryd.ntmps27
      go_wp2_with fail
      refine (clone_bytes (Sl.nil_ kByte All w) (by simp)).mono ?_
      rintro e w1 ⟨A1, k1, rfl, o1, f1⟩
      go_wp2_with fail
      go_ret3
      rw [HG.out]
      exact ⟨A1, _, k1, [], rfl, rfl, o1, f1⟩
end Go.Proofs.YteikddopeplomaaDoor
