/- The disk's functions where they do not do well. -/
import Derived.Test.YteclgcnndjcmmaaDoorDkL
import Derived.Test.YteclgcnndjcmmaaDoorSee
namespace Go.Proofs.YteclgcnndjcmmaaDoor
open Go.RowKit Go.Maps
variable {G : Nat → Prop}

theorem Errs.get {W : World} {qs : List Addr} (h : Errs W qs) (k : Nat) (hk : k < 17) : ∃ a, qs[k]? = some a := by
  have := h.len
  exact ⟨_, List.getElem?_eq_getElem (by omega)⟩
theorem Errs.crash {W : World} {qs : List Addr} (h : Errs W qs) {a : Addr} (hk : qs[9]? = some a) : W.cell? ⟨5, 0, none⟩ = some (.iface 151 (.pointer (some a))) := h.at' (i := 9) 5 rfl (by kernel_rfl) hk
theorem Errs.full {W : World} {qs : List Addr} (h : Errs W qs) {a : Addr} (hk : qs[8]? = some a) : W.cell? ⟨4, 0, none⟩ = some (.iface 151 (.pointer (some a))) := h.at' (i := 8) 4 rfl (by kernel_rfl) hk
theorem Errs.range {W : World} {qs : List Addr} (h : Errs W qs) {a : Addr} (hk : qs[4]? = some a) : W.cell? ⟨0, 0, none⟩ = some (.iface 151 (.pointer (some a))) := h.at' (i := 4) 0 rfl (by kernel_rfl) hk
theorem Errs.many {W : World} {qs : List Addr} (h : Errs W qs) {a : Addr} (hk : qs[3]? = some a) : W.cell? ⟨6, 0, none⟩ = some (.iface 151 (.pointer (some a))) := h.at' (i := 3) 6 rfl (by kernel_rfl) hk

theorem bad_new {n : Int} {w : World} {qs : List Addr} {a : Addr} (he : Errs w qs) (hk : qs[4]? = some a) (h : n < 1 ∨ 16384 < n) :
    Calls Tryd.prog 8 #[.int .i64 n] w fun e w' => e = .returned (.tuple #[.pointer none, .iface 151 (.pointer (some a))]) ∧ Fr All w w' := by
  have g := he.range hk
  clear he hk
  by_cases h1 : n < 1
  · have d1 : decide (n < 1) = true := decide_eq_true h1
    clear h h1
    go_enter Tryd.func8, Tryd.ntmps8
    go_wp2_with fail
    go_quiet (fail)
    go_wp2_with fail
    go_ret2
    exact ⟨rfl, (Fr.refl _ _).drewN _⟩
  · have d1 : decide (n < 1) = false := decide_eq_false h1
    have d2 : decide (n > 16384) = true := decide_eq_true (by omega)
    clear h h1
    go_enter Tryd.func8, Tryd.ntmps8
    go_wp2_with fail
    go_quiet (fail)
    go_wp2_with fail
    go_ret2
    exact ⟨rfl, (Fr.refl _ _).drewN _⟩

section
variable {w0 w : World} {B bs bp : Nat} {s : DSt} {qs : List Addr} {a : Addr}
theorem held_up (h : Held G w0 w B bs bp s) (ha : s.arm ≤ 9223372036854775807) : Calls Tryd.prog 70 #[.pointer (some ⟨B, 0, none⟩)] w fun e w' => e = .returned (.bool (!s.up.down)) ∧ Held G w0 w' B bs bp s.up ∧ Fr (Off B bs bp) w w' := by
  refine (up_call h.dk ha).mono ?_
  rintro e w' ⟨rfl, d, f⟩
  have f2 := f.mono fun x (hx : Off B bs bp x) => hx.1
  exact ⟨rfl, h.off f2 d, f2⟩

theorem bad_write (h : Held G w0 w B bs bp s) (he : Errs w0 qs) (hk : qs[9]? = some a) (ha : s.arm ≤ 9223372036854775807) (hu : s.up.down = true) (i : Int) (A : Option Addr) (n c : Nat) :
    Calls Tryd.prog 45 #[.pointer (some ⟨B, 0, none⟩), .int .i64 i, .slice A n c] w fun e w' => e = .returned (.iface 151 (.pointer (some a))) ∧ Held G w0 w' B bs bp s.up ∧ Fr (Off B bs bp) w w' := by
  have hc := held_up h ha
  rw [hu] at hc
  have HC := Lib.hid hc
  clear hc h hu
  go_enter Tryd.func45, Tryd.ntmps45
  go_wp2_with fail
  refine HC.out.mono ?_
  rintro e w1 ⟨rfl, h1, f1⟩
  have g := (he.move h1.fr).crash hk
  have H1 := Lib.hid h1
  clear h1
  go_wp2_with fail
  go_ret
  exact ⟨rfl, H1.out, f1⟩
theorem full_write (h : Held G w0 w B bs bp s) (he : Errs w0 qs) (hk : qs[8]? = some a) (ha : s.arm ≤ 9223372036854775807) (hu : s.up.down = false) {i : Int} (hi : i < 0 ∨ s.blocks ≤ i) (A : Option Addr) (n c : Nat) :
    Calls Tryd.prog 45 #[.pointer (some ⟨B, 0, none⟩), .int .i64 i, .slice A n c] w fun e w' => e = .returned (.iface 151 (.pointer (some a))) ∧ Held G w0 w' B bs bp s.up ∧ Fr (Off B bs bp) w w' := by
  obtain ⟨t, ht⟩ : ∃ t, s.up = t := ⟨_, rfl⟩
  have hb : t.blocks = s.blocks := by rw [← ht]; exact s.up_same.2.2.2.2.2
  rw [← hb] at hi
  have hc := held_up h ha
  rw [ht] at hc hu ⊢
  rw [hu] at hc
  have HC := Lib.hid hc
  clear hc h hu ht hb
  by_cases h1 : i < 0
  · have d1 : decide (i < 0) = true := decide_eq_true h1
    clear hi h1
    go_enter Tryd.func45, Tryd.ntmps45
    go_wp2_with fail
    refine HC.out.mono ?_
    rintro e w1 ⟨rfl, h1, f1⟩
    have g := (he.move h1.fr).full hk
    have H1 := Lib.hid h1
    clear h1
    go_wp2_with fail
    go_ret
    exact ⟨rfl, H1.out, f1⟩
  · have d1 : decide (i < 0) = false := decide_eq_false h1
    have d2 : decide (i ≥ t.blocks) = true := decide_eq_true (by omega)
    clear hi h1
    go_enter Tryd.func45, Tryd.ntmps45
    go_wp2_with fail
    refine HC.out.mono ?_
    rintro e w1 ⟨rfl, h1, f1⟩
    have g := (he.move h1.fr).full hk
    have q0 := h1.dk.c0
    have H1 := Lib.hid h1
    clear h1
    go_wp2_with fail
    go_ret
    exact ⟨rfl, H1.out, f1⟩
theorem many_write (h : Held G w0 w B bs bp s) (he : Errs w0 qs) (hk : qs[3]? = some a) (ha : s.arm ≤ 9223372036854775807) (hu : s.up.down = false) {i : Int} (h0 : 0 ≤ i) (h1 : i < s.blocks) (A : Option Addr) {n : Nat} (hn : 256 < n) (c : Nat) :
    Calls Tryd.prog 45 #[.pointer (some ⟨B, 0, none⟩), .int .i64 i, .slice A n c] w fun e w' => e = .returned (.iface 151 (.pointer (some a))) ∧ Held G w0 w' B bs bp s.up ∧ Fr (Off B bs bp) w w' := by
  obtain ⟨t, ht⟩ : ∃ t, s.up = t := ⟨_, rfl⟩
  have hb : t.blocks = s.blocks := by rw [← ht]; exact s.up_same.2.2.2.2.2
  rw [← hb] at h1
  have hc := held_up h ha
  rw [ht] at hc hu ⊢
  rw [hu] at hc
  have HC := Lib.hid hc
  have d1 : decide (i < 0) = false := decide_eq_false (by omega)
  have d2 : decide (i ≥ t.blocks) = false := decide_eq_false (by omega)
  have d3 : decide ((n : Int) > 256) = true := decide_eq_true (by omega)
  clear hc h hu ht hb
  go_enter Tryd.func45, Tryd.ntmps45
  go_wp2_with fail
  refine HC.out.mono ?_
  rintro e w1 ⟨rfl, h1, f1⟩
  have g := (he.move h1.fr).many hk
  have q0 := h1.dk.c0
  have H1 := Lib.hid h1
  clear h1
  go_wp2_with fail
  go_ret
  exact ⟨rfl, H1.out, f1⟩
theorem bad_sync (h : Held G w0 w B bs bp s) (he : Errs w0 qs) (hk : qs[9]? = some a) (ha : s.arm ≤ 9223372036854775807) (hu : s.up.down = true) :
    Calls Tryd.prog 47 #[.pointer (some ⟨B, 0, none⟩)] w fun e w' => e = .returned (.iface 151 (.pointer (some a))) ∧ Held G w0 w' B bs bp s.up ∧ Fr (Off B bs bp) w w' := by
  have hc := held_up h ha
  rw [hu] at hc
  have HC := Lib.hid hc
  clear hc h hu
  go_enter Tryd.func47, Tryd.ntmps47
  go_wp2_with fail
  refine HC.out.mono ?_
  rintro e w1 ⟨rfl, h1, f1⟩
  have g := (he.move h1.fr).crash hk
  have H1 := Lib.hid h1
  clear h1
  go_wp2_with fail
  go_ret
  exact ⟨rfl, H1.out, f1⟩
theorem bad_read (h : Held G w0 w B bs bp s) (he : Errs w0 qs) (hk : qs[9]? = some a) (hd : s.down = true) (i : Int) :
    Calls Tryd.prog 44 #[.pointer (some ⟨B, 0, none⟩), .int .i64 i] w fun e w' => e = .returned (.tuple #[.slice none 0 0, .bool false, .iface 151 (.pointer (some a))]) ∧ Held G w0 w' B bs bp s ∧ Fr All w w' := by
  have g := (he.move h.fr).crash hk
  have q5 := h.dk.c5
  rw [hd] at q5
  have H := Lib.hid h
  clear h hd
  go_enter Tryd.func44, Tryd.ntmps44
  go_wp2_with fail
  go_quiet (fail)
  go_wp2_with fail
  go_ret3
  exact ⟨rfl, H.out.all ((Fr.refl _ _).drewN _), (Fr.refl _ _).drewN _⟩
theorem full_read (h : Held G w0 w B bs bp s) (he : Errs w0 qs) (hk : qs[8]? = some a) (hd : s.down = false) {i : Int} (hi : i < 0 ∨ s.blocks ≤ i) :
    Calls Tryd.prog 44 #[.pointer (some ⟨B, 0, none⟩), .int .i64 i] w fun e w' => e = .returned (.tuple #[.slice none 0 0, .bool false, .iface 151 (.pointer (some a))]) ∧ Held G w0 w' B bs bp s ∧ Fr All w w' := by
  have g := (he.move h.fr).full hk
  have q5 := h.dk.c5
  have q0 := h.dk.c0
  rw [hd] at q5
  have H := Lib.hid h
  clear h hd
  by_cases h1 : i < 0
  · have d1 : decide (i < 0) = true := decide_eq_true h1
    clear hi h1
    go_enter Tryd.func44, Tryd.ntmps44
    go_wp2_with fail
    go_quiet (fail)
    go_wp2_with fail
    go_ret3
    exact ⟨rfl, H.out.all ((Fr.refl _ _).drewN _), (Fr.refl _ _).drewN _⟩
  · have d1 : decide (i < 0) = false := decide_eq_false h1
    have d2 : decide (i ≥ s.blocks) = true := decide_eq_true (by omega)
    clear hi h1
    go_enter Tryd.func44, Tryd.ntmps44
    go_wp2_with fail
    go_quiet (fail)
    go_wp2_with fail
    go_ret3
    exact ⟨rfl, H.out.all ((Fr.refl _ _).drewN _), (Fr.refl _ _).drewN _⟩
end
end Go.Proofs.YteclgcnndjcmmaaDoor
