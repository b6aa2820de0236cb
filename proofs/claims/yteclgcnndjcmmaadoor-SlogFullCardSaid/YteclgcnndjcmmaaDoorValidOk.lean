/- redo.within. redo.Valid of a right record: no error need lie in memory. -/
import Derived.Test.YteclgcnndjcmmaaDoorVIx
import Derived.Test.YteclgcnndjcmmaaDoorProg
import Derived.KernelRfl
import Derived.Outline
namespace Go.Proofs.YteclgcnndjcmmaaDoor
open Go.RowKit

set_option maxRecDepth 100000 in
theorem within_call (n b : Int) (w : World) : Calls Tryd.prog 72 #[.int .i64 n, .int .i64 b] w fun e w' => e = .returned (.bool (inB n b)) ∧ w' = w := by
  cases h1 : decide (n ≥ 0) with
  | true =>
    go_enter Tryd.func72, Tryd.ntmps72
    go_wp2_with fail
    go_ret
    exact ⟨ret_bool (by have := of_decide_eq_true h1; simp [inB]; omega), rfl⟩
  | false =>
    go_enter Tryd.func72, Tryd.ntmps72
    go_wp2_with fail
    go_ret
    exact ⟨ret_bool (by have := of_decide_eq_false h1; simp [inB]; omega), rfl⟩

end Go.Proofs.YteclgcnndjcmmaaDoor
namespace Go.Proofs.YteclgcnndjcmmaaDoor
open Go.RowKit

set_option hygiene false in
set_option maxHeartbeats 1000000 in
set_option maxRecDepth 100000 in
theorem valid_ok {w : World} {r : Redo} {v0 v1 : Value} {S T : Nat → Prop} (hv : validIx r = none) (s0 : Sl kByte S w v0 r.key) (s1 : Sl kByte T w v1 r.val) :
    Calls Tryd.prog 49 #[.agg #[.int .i64 r.lsn, .int .i64 r.back, .int .i64 r.epoch, .int .i64 r.group, .int .i64 r.page, .int .i64 r.kind, .int .i64 r.slot, v0, v1, .bool r.last]] w
      fun e w' => e = .returned .nilIface ∧ Fr All w w' := by
  obtain ⟨A0, n0, c0, rfl, e0, _⟩ := s0.open_
  obtain ⟨A1, n1, c1, rfl, e1, _⟩ := s1.open_
  obtain ⟨a1, a2, a3, a4, a5, a6, a7, a8, a9, a10, a11, a12, a13, a14, a15, a16⟩ := validIx_none hv
  obtain ⟨lsn, back, epoch, group, page, kind, slot, key, val, last⟩ := r
  dsimp only at *
  have B := heap_alloc_new w (.cells #[.int .i64 lsn, .int .i64 back, .int .i64 epoch, .int .i64 group, .int .i64 page, .int .i64 kind, .int .i64 slot, .slice A0 n0 c0, .slice A1 n1 c1, .bool last] 36)
  have F0 := (Fr.refl All w).alloc (.cells #[.int .i64 lsn, .int .i64 back, .int .i64 epoch, .int .i64 group, .int .i64 page, .int .i64 kind, .int .i64 slot, .slice A0 n0 c0, .slice A1 n1 c1, .bool last] 36)
  obtain ⟨p0, p1, p2, p3, p4, p5, p6, p7, p8, p9, pz⟩ := blk10 B
  obtain ⟨W, hW⟩ : ∃ W, w.alloc (.cells #[.int .i64 lsn, .int .i64 back, .int .i64 epoch, .int .i64 group, .int .i64 page, .int .i64 kind, .int .i64 slot, .slice A0 n0 c0, .slice A1 n1 c1, .bool last] 36) = W := ⟨_, rfl⟩
  rw [hW] at F0 p0 p1 p2 p3 p4 p5 p6 p7 p8 p9 pz
  have h1 : decide (lsn < 1) = false := decide_eq_false (by omega)
  have h2 : decide (lsn > 1099511627776) = false := decide_eq_false (by omega)
  have h3 : inB epoch 1073741825 = true := inB_iff.2 ⟨a3, a4⟩
  have h4 : inB group 4 = true := inB_iff.2 ⟨a5, a6⟩
  have h5 : inB page 256 = true := inB_iff.2 ⟨a7, a8⟩
  have h6 : decide (back < 0) = false := decide_eq_false (by omega)
  have h7 : decide (back ≥ lsn) = false := decide_eq_false (by omega)
  have h8 : inB slot 32769 = true := inB_iff.2 ⟨a11, a12⟩
  have h9 : decide (kind < 1) = false := decide_eq_false (by omega)
  have h10 : decide (kind > 6) = false := decide_eq_false (by omega)
  have h11 : decide ((n0 : Int) > 32) = false := decide_eq_false (by omega)
  have h12 : decide ((n1 : Int) > 64) = false := decide_eq_false (by omega)
  clear B s0 s1 hv e0 e1 a1 a2 a3 a4 a5 a6 a7 a8 a9 a10 a11 a12 a13 a14 a15 a16
  go_enter Tryd.func49, Tryd.ntmps49
  go_wp2_with (first | (go_at_call 72; refine (within_call _ _ _).mono ?_; rintro e _ ⟨rfl, rfl⟩))
  go_ret
  exact ⟨rfl, F0⟩
end Go.Proofs.YteclgcnndjcmmaaDoor
