/- The base of chapter 11, while nothing is raised: NewBase, take, look, Floor; the chapter's first example. -/
import Derived.Test.YtoaamcpiljoojaaGreatDoorHHd
namespace Go.Proofs.YtoaamcpiljoojaaGreatDoor
open Go.RowKit

theorem cuts_call {S : Nat → Prop} {w : World} {B : Nat} {lv sv : Value} {s : HSt} (h : Hg S w B lv sv s) : Calls Tryz.prog 124 #[.pointer (some ⟨B, 0, none⟩)] w fun e w' => e = .returned (.int .i64 s.cuts) ∧ w' = w := by
  obtain ⟨A, c, rfl⟩ := h.row.length
  obtain ⟨p0, p1, p2, p3, p4, p5, pz⟩ := blk6 h.blk
  clear h
  go_enter Tryz.func124, Tryz.ntmps124
  go_wp2_with fail
  go_ret
  exact ⟨rfl, rfl⟩
/-- A base at b, of the log at B. -/
def VBlk (w : World) (b : Nat) (l : Option Addr) (cuts floor : Int) (ids : Value) : Prop := w.heap[b]? = some (.cells #[.pointer l, .int .i64 cuts, .int .i64 floor, ids] 136 (0, 0))
theorem newbase_call (w : World) : Calls Tryz.prog 62 #[] w fun e w' => e = .returned (.pointer (some ⟨w.heap.size, 0, none⟩)) ∧ VBlk w' w.heap.size none 0 0 (.slice none 0 0) ∧ Fr All w w' := by
  go_enter Tryz.func62, Tryz.ntmps62
  go_wp2_with fail
  go_ret
  exact ⟨rfl, heap_alloc_new w _, (Fr.refl All w).alloc _⟩
/-- look, where the log was not cut since. -/
theorem look_call {S : Nat → Prop} {w : World} {b B : Nat} {lv sv ids : Value} {s : HSt} {floor : Int} (h : Hg S w B lv sv s) (k : VBlk w b (some ⟨B, 0, none⟩) s.cuts floor ids) : Calls Tryz.prog 98 #[.pointer (some ⟨b, 0, none⟩)] w fun e w' => e = .returned (.tuple #[]) ∧ Fr All w w' := by
  obtain ⟨p0, p1, p2, p3, pz⟩ := blk4 k
  have H := Lib.hid h
  clear h k
  go_enter Tryz.func98, Tryz.ntmps98
  go_wp2_with fail
  have hc : ∀ m, Calls Tryz.prog 124 #[.pointer (some ⟨B, 0, none⟩)] (w.drewN m) fun e w' => e = .returned (.int .i64 s.cuts) ∧ w' = w.drewN m := fun m => cuts_call (H.out.all ((Fr.refl All w).drewN m))
  have HC := Lib.hid hc
  clear hc
  go_quiet ((go_at_call 124; exact Calls.quiet_of_same (HC.out _)))
  go_wp2_with fail
  go_end0
  exact ⟨rfl, (Fr.refl All w).drewN _⟩
/-- take of a base's first log. -/
theorem take_first {S : Nat → Prop} {w : World} {b B : Nat} {lv sv : Value} {s : HSt} (h : Hg S w B lv sv s) (k : VBlk w b none 0 0 (.slice none 0 0)) (hne : b ≠ B) (hS : ∀ x, S x → x ≠ b) (hlv : lv.ownBlock ≠ some b) :
    Calls Tryz.prog 97 #[.pointer (some ⟨b, 0, none⟩), .pointer (some ⟨B, 0, none⟩)] w fun e w' => e = .returned (.tuple #[]) ∧ VBlk w' b (some ⟨B, 0, none⟩) s.cuts 0 (.slice none 0 0) ∧ Fr (fun x => x ≠ b) w w' := by
  obtain ⟨p0, p1, p2, p3, pz⟩ := blk4 k
  have H := Lib.hid h
  have K := Lib.hid k
  have HS := Lib.hid hS
  have HL := Lib.hid hlv
  clear h k hS hlv
  go_enter Tryz.func97, Tryz.ntmps97
  go_wp2_with fail
  refine (cuts_call H.out).mono ?_
  rintro e w2 ⟨rfl, hw2⟩
  obtain rfl := hw2.symm
  clear hw2
  go_wp2_with fail
  have fS : Fr (fun x => x ≠ b) w ((w.setCell ⟨b, 0, none⟩ (.pointer (some ⟨B, 0, none⟩))).setCell ⟨b, 1, none⟩ (.int .i64 s.cuts)) := by
    repeat (first | (with_reducible exact Fr.refl _ _) | with_reducible refine Fr.setCell ?_ (fun m hm => by exact hm) _)
  have hk2 : VBlk ((w.setCell ⟨b, 0, none⟩ (.pointer (some ⟨B, 0, none⟩))).setCell ⟨b, 1, none⟩ (.int .i64 s.cuts)) b (some ⟨B, 0, none⟩) s.cuts 0 (.slice none 0 0) := heap_setCell_same _ b 1 _ _ _ (heap_setCell_same _ b 0 _ _ _ K.out)
  have H2 := Lib.hid (H.out.move fS (fun e => hne e.symm) (fun j hj e => HL.out (by rw [hj, e])) (fun x hx _ => HS.out x hx))
  have HK2 := Lib.hid hk2
  have HF := Lib.hid fS
  generalize (w.setCell ⟨b, 0, none⟩ (.pointer (some ⟨B, 0, none⟩))).setCell ⟨b, 1, none⟩ (.int .i64 s.cuts) = W at *
  clear hk2 fS p0 p1 p2 p3 pz
  refine (look_call H2.out HK2.out).mono ?_
  rintro e w3 ⟨rfl, f3⟩
  have HK3 : Hid (VBlk w3 b (some ⟨B, 0, none⟩) s.cuts 0 (.slice none 0 0)) := Lib.hid ((f3.block b (blk_lt HK2.out) trivial).trans HK2.out)
  go_wp2_with fail
  go_end0
  exact ⟨rfl, HK3.out, HF.out.trans (f3.mono fun _ _ => trivial)⟩

theorem climb_nil {v : Int} (h : Climb [] 0 v) : v = 0 := h.inj (.stop rfl)
set_option maxRecDepth 100000 in
set_option maxHeartbeats 1000000 in
theorem first11_call (w : World) : Calls Tryz.prog 29 #[] w fun e w' => e = .returned (.bool true) ∧ Fr All w w' := by
  go_enter Tryz.func29, Tryz.ntmps29
  go_wp2_with fail
  refine (newbase_call w).mono ?_
  rintro e w1 ⟨rfl, k1, f1⟩
  have K1 := Lib.hid k1
  have F1 := Lib.hid f1
  have hz1 := blk_lt k1
  clear k1 f1
  go_wp2_with fail
  refine (hot_new 0 w1).mono ?_
  rintro e w2 ⟨rfl, h2, f2⟩
  have K2 : Hid (VBlk w2 w.heap.size none 0 0 (.slice none 0 0)) := Lib.hid ((f2.block _ hz1 trivial).trans K1.out)
  have H2 := Lib.hid h2
  have F2 := Lib.hid (F1.out.trans f2)
  obtain ⟨b, hb⟩ : ∃ b, w.heap.size = b := ⟨_, rfl⟩
  obtain ⟨B, hB⟩ : ∃ B, w1.heap.size = B := ⟨_, rfl⟩
  rw [hb] at K2
  rw [hB] at H2
  simp only [hb, hB]
  have hbB : b < B := by omega
  have HB0 := Lib.hid hb
  have HB1 := Lib.hid hB
  clear h2 f2 hb hB K1 F1 hz1
  -- Raise, walked here
  have hraise : Calls Tryz.prog 63 #[.pointer (some ⟨b, 0, none⟩), .pointer (some ⟨B, 0, none⟩), .int .i64 0] w2 fun e w' => e = .returned (.int .i64 0) ∧ VBlk w' b (some ⟨B, 0, none⟩) 0 0 (.slice none 0 0) ∧ (∃ S lv sv s, Hg S w' B lv sv s ∧ s.cuts = 0) ∧ Fr (fun x => x ≠ b ∧ x ≠ B) w2 w' := by
    go_enter Tryz.func63, Tryz.ntmps63
    go_wp2_with fail
    refine (take_first H2.out K2.out (by omega) (fun x hx => by have : B < x := hx; omega) (by simp [Value.ownBlock])).mono ?_
    rintro e w3 ⟨rfl, k3, f3⟩
    have K3 := Lib.hid k3
    have H3 := Lib.hid (H2.out.move f3 (by omega : B ≠ b) (fun j hj => by simp [Value.ownBlock] at hj) (fun x hx _ => by have : B < x := hx; show x ≠ b; omega))
    have F3 := Lib.hid f3
    clear k3 f3
    go_wp2_with fail
    refine (scl_call H3.out).mono ?_
    rintro e w4 ⟨v, rfl, hc, h4, f4⟩
    obtain rfl := climb_nil hc
    have K4 : Hid (VBlk w4 b (some ⟨B, 0, none⟩) 0 0 (.slice none 0 0)) := Lib.hid ((f4.block b (blk_lt K3.out) (by omega)).trans K3.out)
    have H4 := Lib.hid h4
    have F4 := Lib.hid f4
    obtain ⟨p0, p1, p2, p3, pz⟩ := blk4 K4.out
    clear hc h4 f4
    go_wp2_with fail
    go_ret
    exact ⟨rfl, K4.out, ⟨_, _, _, _, H4.out, rfl⟩, (F3.out.mono fun x hx => hx.1).trans (F4.out.mono fun x hx => hx.2)⟩
  have HR := Lib.hid hraise
  clear hraise
  go_wp2_with fail
  refine HR.out.mono ?_
  rintro e w5 ⟨rfl, k5, ⟨S, lv, sv, s, h5, hc5⟩, f5⟩
  have K5 := Lib.hid k5
  have H5 := Lib.hid h5
  have HC5 := Lib.hid hc5
  have F5 : Hid (Fr All w w5) := Lib.hid (by
    have h0 := F2.out
    have e0 := HB0.out
    have e1 := HB1.out
    exact ⟨f5.os.trans h0.os, f5.tape.trans h0.tape, f5.output.trans h0.output, Nat.le_trans h0.size f5.size, fun x hx _ => (f5.block x (Nat.lt_of_lt_of_le hx h0.size) ⟨by omega, by omega⟩).trans (h0.block x hx trivial)⟩)
  clear k5 h5 hc5 f5
  have hfloor : Calls Tryz.prog 64 #[.pointer (some ⟨b, 0, none⟩)] w5 fun e w' => e = .returned (.int .i64 0) ∧ Fr All w5 w' := by
    go_enter Tryz.func64, Tryz.ntmps64
    go_wp2_with fail
    refine (look_call H5.out (by rw [HC5.out]; exact K5.out)).mono ?_
    rintro e w6 ⟨rfl, f6⟩
    obtain ⟨p0, p1, p2, p3, pz⟩ := blk4 ((f6.block b (blk_lt K5.out) trivial).trans K5.out)
    go_wp2_with fail
    go_ret
    exact ⟨rfl, f6⟩
  have HF := Lib.hid hfloor
  clear hfloor
  go_wp2_with fail
  refine HF.out.mono ?_
  rintro e w7 ⟨rfl, f7⟩
  go_wp2_with fail
  go_ret
  exact ⟨rfl, F5.out.trans f7⟩
end Go.Proofs.YtoaamcpiljoojaaGreatDoor
