/- redo.Valid: which error, or none; the chapter's first; LSN. -/
import Derived.Test.YteclgcnndjcmmaaDoorSee
import Derived.Test.YteclgcnndjcmmaaDoorVIx
import Derived.Test.YteclgcnndjcmmaaDoorValidOk
namespace Go.Proofs.YteclgcnndjcmmaaDoor
open Go.RowKit

def errAt (qs : List Addr) : Option Nat → Value
  | none => .nilIface
  | some k => match qs[k]? with | some a => errV a | none => .nilIface

set_option hygiene false in
set_option maxHeartbeats 4000000 in
set_option maxRecDepth 100000 in
theorem valid_call {qs : List Addr} {w : World} {r : Redo} {v0 v1 : Value} {S T : Nat → Prop} (h : Errs w qs) (s0 : Sl kByte S w v0 r.key) (s1 : Sl kByte T w v1 r.val) :
    Calls Tryd.prog 49 #[.agg #[.int .i64 r.lsn, .int .i64 r.back, .int .i64 r.epoch, .int .i64 r.group, .int .i64 r.page, .int .i64 r.kind, .int .i64 r.slot, v0, v1, .bool r.last]] w
      fun e w' => e = .returned (errAt qs (validIx r)) ∧ Fr All w w' := by
  obtain ⟨A0, n0, c0, rfl, e0, _⟩ := s0.open_
  obtain ⟨A1, n1, c1, rfl, e1, _⟩ := s1.open_
  obtain ⟨lsn, back, epoch, group, page, kind, slot, key, val, last⟩ := r
  dsimp only at *
  have B := heap_alloc_new w (.cells #[.int .i64 lsn, .int .i64 back, .int .i64 epoch, .int .i64 group, .int .i64 page, .int .i64 kind, .int .i64 slot, .slice A0 n0 c0, .slice A1 n1 c1, .bool last] 36)
  have F0 := (Fr.refl All w).alloc (.cells #[.int .i64 lsn, .int .i64 back, .int .i64 epoch, .int .i64 group, .int .i64 page, .int .i64 kind, .int .i64 slot, .slice A0 n0 c0, .slice A1 n1 c1, .bool last] 36)
  obtain ⟨p0, p1, p2, p3, p4, p5, p6, p7, p8, p9, pz⟩ := blk10 B
  obtain ⟨aR, qR, gR⟩ := (h.move F0).at 4 "sextet/api.ErrRange" 0 rfl (by kernel_rfl)
  obtain ⟨aK, qK, gK⟩ := (h.move F0).at 5 "sextet/api.ErrKind" 7 rfl (by kernel_rfl)
  obtain ⟨aM, qM, gM⟩ := (h.move F0).at 3 "sextet/api.ErrMany" 6 rfl (by kernel_rfl)
  obtain ⟨W, hW⟩ : ∃ W, w.alloc (.cells #[.int .i64 lsn, .int .i64 back, .int .i64 epoch, .int .i64 group, .int .i64 page, .int .i64 kind, .int .i64 slot, .slice A0 n0 c0, .slice A1 n1 c1, .bool last] 36) = W := ⟨_, rfl⟩
  rw [hW] at F0 p0 p1 p2 p3 p4 p5 p6 p7 p8 p9 pz gR gK gM
  have HR := Lib.hid qR
  have HK := Lib.hid qK
  have HM := Lib.hid qM
  have E0 := Lib.hid e0
  have E1 := Lib.hid e1
  unfold errV at gR gK gM
  clear B qR qK qM h s0 s1 e0 e1
  cases h1 : decide (lsn < 1) with
  | true =>
    go_enter Tryd.func49, Tryd.ntmps49
    go_wp2_with (first | (go_at_call 72; refine (within_call _ _ _).mono ?_; rintro e _ ⟨rfl, rfl⟩))
    go_ret
    exact ⟨by simp [validIx, errAt, errV, *, HR.out, HK.out, HM.out, E0.out, E1.out], F0⟩
  | false =>
  cases h2 : decide (lsn > 1099511627776) with
  | true =>
    go_enter Tryd.func49, Tryd.ntmps49
    go_wp2_with (first | (go_at_call 72; refine (within_call _ _ _).mono ?_; rintro e _ ⟨rfl, rfl⟩))
    go_ret
    exact ⟨by simp [validIx, errAt, errV, *, HR.out, HK.out, HM.out, E0.out, E1.out], F0⟩
  | false =>
  cases h3 : inB epoch 1073741825 with
  | false =>
    go_enter Tryd.func49, Tryd.ntmps49
    go_wp2_with (first | (go_at_call 72; refine (within_call _ _ _).mono ?_; rintro e _ ⟨rfl, rfl⟩))
    go_ret
    exact ⟨by simp [validIx, errAt, errV, *, HR.out, HK.out, HM.out, E0.out, E1.out], F0⟩
  | true =>
  cases h4 : inB group 4 with
  | false =>
    go_enter Tryd.func49, Tryd.ntmps49
    go_wp2_with (first | (go_at_call 72; refine (within_call _ _ _).mono ?_; rintro e _ ⟨rfl, rfl⟩))
    go_ret
    exact ⟨by simp [validIx, errAt, errV, *, HR.out, HK.out, HM.out, E0.out, E1.out], F0⟩
  | true =>
  cases h5 : inB page 256 with
  | false =>
    go_enter Tryd.func49, Tryd.ntmps49
    go_wp2_with (first | (go_at_call 72; refine (within_call _ _ _).mono ?_; rintro e _ ⟨rfl, rfl⟩))
    go_ret
    exact ⟨by simp [validIx, errAt, errV, *, HR.out, HK.out, HM.out, E0.out, E1.out], F0⟩
  | true =>
  cases h6 : decide (back < 0) with
  | true =>
    go_enter Tryd.func49, Tryd.ntmps49
    go_wp2_with (first | (go_at_call 72; refine (within_call _ _ _).mono ?_; rintro e _ ⟨rfl, rfl⟩))
    go_ret
    exact ⟨by simp [validIx, errAt, errV, *, HR.out, HK.out, HM.out, E0.out, E1.out], F0⟩
  | false =>
  cases h7 : decide (back ≥ lsn) with
  | true =>
    go_enter Tryd.func49, Tryd.ntmps49
    go_wp2_with (first | (go_at_call 72; refine (within_call _ _ _).mono ?_; rintro e _ ⟨rfl, rfl⟩))
    go_ret
    exact ⟨by simp [validIx, errAt, errV, *, HR.out, HK.out, HM.out, E0.out, E1.out], F0⟩
  | false =>
  cases h8 : inB slot 32769 with
  | false =>
    go_enter Tryd.func49, Tryd.ntmps49
    go_wp2_with (first | (go_at_call 72; refine (within_call _ _ _).mono ?_; rintro e _ ⟨rfl, rfl⟩))
    go_ret
    exact ⟨by simp [validIx, errAt, errV, *, HR.out, HK.out, HM.out, E0.out, E1.out], F0⟩
  | true =>
  cases h9 : decide (kind < 1) with
  | true =>
    go_enter Tryd.func49, Tryd.ntmps49
    go_wp2_with (first | (go_at_call 72; refine (within_call _ _ _).mono ?_; rintro e _ ⟨rfl, rfl⟩))
    go_ret
    exact ⟨by simp [validIx, errAt, errV, *, HR.out, HK.out, HM.out, E0.out, E1.out], F0⟩
  | false =>
  cases h10 : decide (kind > 6) with
  | true =>
    go_enter Tryd.func49, Tryd.ntmps49
    go_wp2_with (first | (go_at_call 72; refine (within_call _ _ _).mono ?_; rintro e _ ⟨rfl, rfl⟩))
    go_ret
    exact ⟨by simp [validIx, errAt, errV, *, HR.out, HK.out, HM.out, E0.out, E1.out], F0⟩
  | false =>
  cases h11 : decide ((n0 : Int) > 32) with
  | true =>
    go_enter Tryd.func49, Tryd.ntmps49
    go_wp2_with (first | (go_at_call 72; refine (within_call _ _ _).mono ?_; rintro e _ ⟨rfl, rfl⟩))
    go_ret
    exact ⟨by simp [validIx, errAt, errV, *, HR.out, HK.out, HM.out, E0.out, E1.out], F0⟩
  | false =>
  cases h12 : decide ((n1 : Int) > 64) with
  | true =>
    go_enter Tryd.func49, Tryd.ntmps49
    go_wp2_with (first | (go_at_call 72; refine (within_call _ _ _).mono ?_; rintro e _ ⟨rfl, rfl⟩))
    go_ret
    exact ⟨by simp [validIx, errAt, errV, *, HR.out, HK.out, HM.out, E0.out, E1.out], F0⟩
  | false =>
    go_enter Tryd.func49, Tryd.ntmps49
    go_wp2_with (first | (go_at_call 72; refine (within_call _ _ _).mono ?_; rintro e _ ⟨rfl, rfl⟩))
    go_ret
    exact ⟨by simp [validIx, errAt, errV, *, HR.out, HK.out, HM.out, E0.out, E1.out], F0⟩
end Go.Proofs.YteclgcnndjcmmaaDoor
