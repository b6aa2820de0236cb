/- A disk that does well, as the statements use it; the chapter's first. -/
import Derived.Test.YteikddopeplomaaDoorDkH
import Derived.Test.YteikddopeplomaaDoorDkX
namespace Go.Proofs.YteikddopeplomaaDoor
open Go.RowKit Go.Maps

theorem DSt.up_well {s : DSt} (ha : s.arm = 0) : s.up = s := by simp [DSt.up, ha]
/-- Behind a Write. -/
def DSt.put (s : DSt) (i : Int) (xs : List UInt8) : DSt := { s with pen := upd s.pen i xs, np := (if (s.pen i).isSome then s.np else s.np + 1), calls := s.calls + 1 }
/-- Behind a Sync. -/
def DSt.sync (s : DSt) (n : Nat) : DSt := { s with syn := fun k => s.pen k <|> s.syn k, ns := n, pen := fun _ => none, np := 0, calls := s.calls + 1 }
def DSt.new (n : Int) : DSt := ⟨n, fun _ => none, 0, fun _ => none, 0, 0, 0, false⟩

theorem held_new {n : Int} (w : World) (h0 : 1 ≤ n) (h1 : n ≤ 16384) :
    Calls Tryd.prog 23 #[.int .i64 n] w fun e w' => ∃ B bs bp, e = .returned (.tuple #[.pointer (some ⟨B, 0, none⟩), .nilIface]) ∧ Held w w' B bs bp (.new n) := by
  refine (new_call w h0 h1).mono ?_
  rintro e w' ⟨B, bs, bp, rfl, a, b, c, d, f⟩
  exact ⟨B, bs, bp, rfl, d, a, b, c, f⟩

section
variable {w0 w : World} {B bs bp : Nat} {s : DSt}
theorem held_write (h : Held w0 w B bs bp s) {S : Nat → Prop} {v : Value} {xs : List UInt8} {i : Int} (hv : Sl kByte S w v xs) (hS : ∀ x, S x → x < w.heap.size → x ≠ B) (ha : s.arm = 0) (hd : s.down = false) (h0 : 0 ≤ i) (h1 : i < s.blocks) (hb : s.blocks ≤ 16384) (hl : xs.length ≤ 256) (hn : s.np ≤ 100000) (hc0 : 0 ≤ s.calls) (hc : s.calls ≤ 1000000) :
    Calls Tryd.prog 26 #[.pointer (some ⟨B, 0, none⟩), .int .i64 i, v] w fun e w' => e = .returned .nilIface ∧ Held w0 w' B bs bp (s.put i xs) ∧ Fr (Off B bs bp) w w' := by
  have hu := DSt.up_well ha
  refine (write_call h.dk hv hS (by omega) (by rw [hu]; exact hd) h0 h1 hb hl hn hc0 hc).mono ?_
  rintro e w' ⟨rfl, d, f⟩
  unfold DSt.wrote at d
  rw [hu] at d
  exact ⟨rfl, h.off f d, f⟩
theorem held_sync (h : Held w0 w B bs bp s) (ha : s.arm = 0) (hd : s.down = false) (hn : s.ns + s.np ≤ 100000) (hc0 : 0 ≤ s.calls) (hc : s.calls ≤ 1000000) :
    Calls Tryd.prog 36 #[.pointer (some ⟨B, 0, none⟩)] w fun e w' => ∃ n', e = .returned .nilIface ∧ n' ≤ s.ns + s.np ∧ Held w0 w' B bs bp (s.sync n') ∧ Fr (Off B bs bp) w w' := by
  have hu := DSt.up_well ha
  refine (sync_call h.dk (by omega) (by rw [hu]; exact hd) hn hc0 hc).mono ?_
  rintro e w' ⟨rfl, ⟨n', hn', d⟩, f⟩
  unfold DSt.synced at d
  rw [hu] at d
  exact ⟨n', rfl, hn', h.off f d, f⟩
theorem held_read (h : Held w0 w B bs bp s) {i : Int} (hd : s.down = false) (h0 : 0 ≤ i) (h1 : i < s.blocks) (hb : s.blocks ≤ 16384) (hl : ∀ xs, s.get i = some xs → xs.length ≤ 1000000) :
    Calls Tryd.prog 27 #[.pointer (some ⟨B, 0, none⟩), .int .i64 i] w fun e w' => ∃ A n c xs, e = .returned (.tuple #[.slice A n c, .bool (s.get i).isSome, .nilIface]) ∧ xs = (s.get i).getD [] ∧ Own kByte 5 w.heap.size All w' (.slice A n c) xs ∧ Held w0 w' B bs bp s ∧ Fr All w w' := by
  refine (read_call h.dk hd h0 h1 hb hl).mono ?_
  rintro e w' ⟨A, n, c, xs, rfl, hx, ho, f⟩
  exact ⟨A, n, c, xs, rfl, hx, ho, h.all f, f⟩
theorem held_crash (h : Held w0 w B bs bp s) {S : Nat → Prop} {v : Value} {ps : List Int} (hv : Sl kInt S w v ps) (hS : ∀ x, S x → x < w.heap.size → Off B bs bp x) (hn : s.ns + s.np ≤ 100000) (hl : ps.length ≤ 1000000) :
    Calls Tryd.prog 37 #[.pointer (some ⟨B, 0, none⟩), v] w fun e w' => ∃ ks n', e = .returned (.tuple #[]) ∧ s.Keys ks ∧ n' ≤ s.ns + s.np ∧ Held w0 w' B bs bp (s.crashed (pickTo odd64 s.pen s.syn ks ps ks.length) n') ∧ Fr (Off B bs bp) w w' := by
  refine (crash_call h.dk hv hS hn hl).mono ?_
  rintro e w' ⟨rfl, ks, n', hk, hn', d, f⟩
  exact ⟨ks, n', rfl, hk, hn', h.off f d, f⟩
/-- With no picks. -/
theorem held_crash0 (h : Held w0 w B bs bp s) (hn : s.ns + s.np ≤ 100000) :
    Calls Tryd.prog 37 #[.pointer (some ⟨B, 0, none⟩), .slice none 0 0] w fun e w' => ∃ n', e = .returned (.tuple #[]) ∧ n' ≤ s.ns + s.np ∧ Held w0 w' B bs bp (s.crashed s.syn n') ∧ Fr (Off B bs bp) w w' := by
  refine (held_crash h (Sl.nil_ kInt Nowhere w) (fun x hx => hx.elim) hn (by simp)).mono ?_
  rintro e w' ⟨ks, n', rfl, _, hn', d, f⟩
  rw [pickTo_none fun j => isPick_nil _ _] at d
  exact ⟨n', rfl, hn', d, f⟩
end

/-- A row of one byte, made new. -/
theorem byte_box (w : World) (b : UInt8) : Sl kByte (fun x => w.heap.size ≤ x) (w.alloc (.cells #[.int .u8 (b.toNat : Int)] 5)) (.slice (some ⟨w.heap.size, 0, none⟩) 1 1) [b] :=
  (Own.lay (d := kByte) (e := 5) (S := All) (w := w) (reps_plain [b]) (Nat.le_refl _) (by simp only [maxLen, List.length_singleton]; omega)).plain_in fun _ hb _ => hb

set_option maxRecDepth 100000 in
theorem first5_call (w : World) : Calls Tryd.prog 21 #[] w fun e w' => e = .returned (.bool true) ∧ Fr All w w' := by
  go_enter Tryd.func21, Tryd.ntmps21
  go_wp2_with fail
  refine (held_new w (by omega) (by omega)).mono ?_
  rintro e w1 ⟨B, bs, bp, rfl, h1⟩
  have H1 := Lib.hid (h1.all ((Fr.refl All w1).alloc (.cells #[.int .u8 1] 5)))
  have HB := Lib.hid (byte_box w1 1)
  have l1 := h1.dk.lt
  clear h1
  go_wp2_with fail
  refine (held_write H1.out HB.out (fun x hx _ => by omega) rfl rfl (by omega) (by simp [DSt.new]) (by simp [DSt.new]) (by simp) (by simp [DSt.new]) (by simp [DSt.new]) (by simp [DSt.new])).mono ?_
  rintro e w2 ⟨rfl, h2, f2⟩
  have H2 := Lib.hid h2
  clear h2
  go_wp2_with fail
  refine (held_crash0 H2.out (by simp [DSt.new, DSt.put])).mono ?_
  rintro e w3 ⟨n3, rfl, hn3, h3, f3⟩
  have H3 := Lib.hid h3
  have hg : ((((DSt.new 4).put 0 [1]).crashed ((DSt.new 4).put 0 [1]).syn n3).get 0) = none := rfl
  have HG := Lib.hid hg
  clear h3 hg hn3
  go_wp2_with fail
  refine (held_read H3.out rfl (by omega) (by simp [DSt.new, DSt.put, DSt.crashed]) (by simp [DSt.new, DSt.put, DSt.crashed]) (fun xs hx => by rw [HG.out] at hx; cases hx)).mono ?_
  rintro e w4 ⟨A, n, c, xs, rfl, hx, ho, h4, f4⟩
  rw [HG.out]
  have H4 := Lib.hid h4
  clear h4 ho hx
  go_wp2_with fail
  go_ret
  exact ⟨rfl, H4.out.fr⟩
end Go.Proofs.YteikddopeplomaaDoor
