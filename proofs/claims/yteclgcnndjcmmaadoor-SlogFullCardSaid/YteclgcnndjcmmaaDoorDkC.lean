/- The disk's functions: Read, Sync, Erase, the small ones. The disk's functions: Sync, Arm, Erase. The disk's functions: Arm, Erase, Clone. -/
import Derived.Test.YteclgcnndjcmmaaDoorDkW
namespace Go.Proofs.YteclgcnndjcmmaaDoor
open Go.RowKit Go.Maps
variable {G : Nat → Prop}

theorem blocks_call {w : World} {B bs bp : Nat} {s : DSt} (h : Dk G w B bs bp s) : Calls Tryd.prog 57 #[.pointer (some ⟨B, 0, none⟩)] w fun e w' => e = .returned (.int .i64 s.blocks) ∧ w' = w := by
  have c := h.c0
  clear h
  go_enter Tryd.func57, Tryd.ntmps57
  go_wp2_with fail
  go_ret
  exact ⟨rfl, rfl⟩

theorem down_call {w : World} {B bs bp : Nat} {s : DSt} (h : Dk G w B bs bp s) : Calls Tryd.prog 56 #[.pointer (some ⟨B, 0, none⟩)] w fun e w' => e = .returned (.bool s.down) ∧ w' = w := by
  have c := h.c5
  clear h
  go_enter Tryd.func56, Tryd.ntmps56
  go_wp2_with fail
  go_ret
  exact ⟨rfl, rfl⟩

theorem pending_call {w : World} {B bs bp : Nat} {s : DSt} (h : Dk G w B bs bp s) : Calls Tryd.prog 46 #[.pointer (some ⟨B, 0, none⟩)] w fun e w' => e = .returned (.int .i64 (s.np : Int)) ∧ w' = w := by
  have c := h.c2
  have hl := h.pen.len Tryd.underlying57 3
  clear h
  go_enter Tryd.func46, Tryd.ntmps46
  go_wp2_with fail
  go_ret
  exact ⟨rfl, rfl⟩

/-- What a block has. -/
def DSt.get (s : DSt) (i : Int) : Option (List UInt8) := s.pen i <|> s.syn i

set_option maxRecDepth 100000 in
set_option maxHeartbeats 1000000 in
theorem read_call {w : World} {B bs bp : Nat} {s : DSt} {i : Int} (h : Dk G w B bs bp s) (hd : s.down = false) (h0 : 0 ≤ i) (h1 : i < s.blocks) (hb : s.blocks ≤ 16384) (hl : ∀ xs, s.get i = some xs → xs.length ≤ 1000000) :
    Calls Tryd.prog 44 #[.pointer (some ⟨B, 0, none⟩), .int .i64 i] w fun e w' => ∃ A n c xs, e = .returned (.tuple #[.slice A n c, .bool (s.get i).isSome, .nilIface]) ∧ xs = (s.get i).getD [] ∧ Own kByte 5 w.heap.size All w' (.slice A n c) xs ∧ Fr All w w' := by
  have c0 := h.c0
  have c1 := h.c1
  have c2 := h.c2
  have c5 := h.c5
  rw [hd] at c5
  have d1 : decide (i < 0) = false := decide_eq_false (by omega)
  have d2 : decide (i ≥ s.blocks) = false := decide_eq_false (by omega)
  have hi64 : In64 i := in64_of (by omega) (by omega)
  cases hp : s.pen i with
  | some xs =>
    obtain ⟨A, l, c, hr, hs, hlen⟩ := h.pen.look_some Tryd.underlying3 Tryd.underlying57 zeroRow hi64 hp
    have hg : s.get i = some xs := by simp [DSt.get, hp]
    have hx := hl xs hg
    have HG := Lib.hid hg
    clear h hd hp hl hg
    go_enter Tryd.func44, Tryd.ntmps44
    go_wp2_with fail
    refine (clone_bytes hs (by omega)).mono ?_
    rintro e w1 ⟨A1, k1, rfl, o1, f1⟩
    go_wp2_with fail
    go_ret3
    rw [HG.out]
    exact ⟨A1, _, k1, xs, rfl, rfl, hlen ▸ o1, f1⟩
  | none =>
    have hr := h.pen.look_none Tryd.underlying3 Tryd.underlying57 zeroRow hi64 hp
    cases hq : s.syn i with
    | some xs =>
      obtain ⟨A, l, c, hr2, hs, hlen⟩ := h.syn.look_some Tryd.underlying3 Tryd.underlying57 zeroRow hi64 hq
      have hg : s.get i = some xs := by simp [DSt.get, hp, hq]
      have hx := hl xs hg
      have HG := Lib.hid hg
      clear h hd hp hl hg hq
      go_enter Tryd.func44, Tryd.ntmps44
      go_wp2_with fail
      refine (clone_bytes hs (by omega)).mono ?_
      rintro e w1 ⟨A1, k1, rfl, o1, f1⟩
      go_wp2_with fail
      go_ret3
      rw [HG.out]
      exact ⟨A1, _, k1, xs, rfl, rfl, hlen ▸ o1, f1⟩
    | none =>
      have hr2 := h.syn.look_none Tryd.underlying3 Tryd.underlying57 zeroRow hi64 hq
      have hg : s.get i = none := by simp [DSt.get, hp, hq]
      have HG := Lib.hid hg
      clear h hd hp hl hg hq
      go_enter Tryd.func44, Tryd.ntmps44
      go_wp2_with fail
      refine (clone_bytes (Sl.nil_ kByte All w) (by simp)).mono ?_
      rintro e w1 ⟨A1, k1, rfl, o1, f1⟩
      go_wp2_with fail
      go_ret3
      rw [HG.out]
      exact ⟨A1, _, k1, [], rfl, rfl, o1, f1⟩
end Go.Proofs.YteclgcnndjcmmaaDoor
namespace Go.Proofs.YteclgcnndjcmmaaDoor
open Go.RowKit Go.Maps
variable {G : Nat → Prop}

/-- Behind a Sync that did well. -/
def DSt.synced (s : DSt) (n : Nat) : DSt := { s.up with syn := fun k => s.up.pen k <|> s.up.syn k, ns := n, pen := fun _ => none, np := 0, calls := s.up.calls + 1 }
theorem DSt.up_same (s : DSt) : s.up.pen = s.pen ∧ s.up.np = s.np ∧ s.up.syn = s.syn ∧ s.up.ns = s.ns ∧ s.up.calls = s.calls ∧ s.up.blocks = s.blocks := by
  unfold DSt.up
  split <;> exact ⟨rfl, rfl, rfl, rfl, rfl, rfl⟩

set_option maxRecDepth 100000 in
set_option maxHeartbeats 2000000 in
theorem sync_call {w : World} {B bs bp : Nat} {s : DSt} (h : Dk G w B bs bp s) (ha : s.arm ≤ 9223372036854775807) (hu : s.up.down = false) (hn : s.ns + s.np ≤ 100000) (hc0 : 0 ≤ s.calls) (hc : s.calls ≤ 1000000) :
    Calls Tryd.prog 47 #[.pointer (some ⟨B, 0, none⟩)] w fun e w' => e = .returned .nilIface ∧ (∃ n', n' ≤ s.ns + s.np ∧ Dk G w' B bs bp (s.synced n')) ∧ Fr (Off B bs bp) w w' := by
  obtain ⟨t, ht⟩ : ∃ t, s.up = t := ⟨_, rfl⟩
  obtain ⟨_, g2, _, g4, g5, _⟩ := s.up_same
  have hsy : ∀ n, s.synced n = { t with syn := fun k => t.pen k <|> t.syn k, ns := n, pen := fun _ => none, np := 0, calls := t.calls + 1 } := fun n => by
    unfold DSt.synced
    rw [ht]
  have HY := Lib.hid hsy
  have hcall := up_call h ha
  rw [ht] at hcall hu g2 g4 g5
  rw [hu] at hcall
  rw [← g2, ← g4] at hn ⊢
  rw [← g5] at hc0 hc
  have hw : IntKind.i64.wrap (t.calls + 1) = t.calls + 1 := IntWalk.i64_in _ (by omega)
  have HC := Lib.hid hcall
  clear h ht hcall g2 g4 g5 hsy
  go_enter Tryd.func47, Tryd.ntmps47
  go_wp2_with fail
  refine HC.out.mono ?_
  rintro e w1 ⟨rfl, h1, f1⟩
  have c1 := h1.c1
  have c2 := h1.c2
  have H1 := Lib.hid h1
  clear h1
  go_upto_region 3 with (fail)
  go_region_held3 (fun w' => w'.cell? ⟨B, 1, none⟩ = some (.map (some bs)) ∧ w'.cell? ⟨B, 2, none⟩ = some (.map (some bp)))
    (first | go_keep | (go_split_ands; refine ⟨?_, ?_⟩ <;> exact Fr.cell (by assumption) H1.out.n1 (by assumption)))
    (first
      | (go_at_call 71; refine (copy_call (H1.out.all (Fr.refl All w1).drew).syn (H1.out.all (Fr.refl All w1).drew).pen H1.out.n3 (fun x hx => hx.1.2.1) (by omega)).mono ?_; rintro e w2 ⟨rfl, ⟨n2, hn2, m2⟩, m3, f2⟩))
  have F2 : Fr (fun x => x ≠ bs) w1 w2 := ((Fr.refl _ w1).drew).trans f2
  have D2 : Dk G w2 B bs bp { t with syn := fun k => t.pen k <|> t.syn k, ns := n2 } := H1.out.stays F2 H1.out.n1 rfl rfl rfl rfl m2 m3
  obtain ⟨w3, hr, m4, f3⟩ := D2.pen.clear Tryd.underlying57 0
  have D3 : Dk G w3 B bs bp { t with syn := fun k => t.pen k <|> t.syn k, ns := n2, pen := fun _ => none, np := 0 } := D2.stays f3 D2.n2 rfl rfl rfl rfl (D2.syn.move f3 D2.n3 fun x hx _ => hx.1.2.2) m4
  have q2 := D2.c2
  obtain ⟨c0, c1', c2', c3, c4, c5, cz⟩ : _ ∧ _ ∧ _ ∧ _ ∧ _ ∧ _ ∧ _ := ⟨D3.c0, D3.c1, D3.c2, D3.c3, D3.c4, D3.c5, D3.cz⟩
  have H3 := Lib.hid D3
  have HN := Lib.hid hn2
  clear D2 D3 m2 m3 m4 hn2
  dsimp only at c0 c1' c2' c3 c4 c5
  go_wp2_with fail
  go_ret
  have F5 : Fr (fun x => x ≠ B) w3 (w3.setCell ⟨B, 3, none⟩ (.int .i64 (t.calls + 1))) := (Fr.refl _ _).setCell (fun m hm => by exact hm) _
  refine ⟨rfl, ⟨n2, HN.out, ?_⟩, ?_⟩
  · rw [HY.out n2]
    refine H3.out.cells F5 rfl rfl rfl rfl ?_ ?_ ?_ ?_ ?_ ?_ ?_
    · go_simp
    · go_simp
    · go_simp
    · go_simp
    · go_simp
    · go_simp
    · intro j
      go_simp
  · exact (((f1.mono fun x (hx : Off B bs bp x) => hx.1).trans (F2.mono fun x (hx : Off B bs bp x) => hx.2.1)).trans (f3.mono fun x (hx : Off B bs bp x) => hx.2.2)).trans (F5.mono fun x (hx : Off B bs bp x) => hx.1)
end Go.Proofs.YteclgcnndjcmmaaDoor
namespace Go.Proofs.YteclgcnndjcmmaaDoor
open Go.RowKit Go.Maps
variable {G : Nat → Prop}

/-- Erased. -/
def DSt.erased (s : DSt) : DSt := { s with syn := fun _ => none, ns := 0, pen := fun _ => none, np := 0, down := false, arm := 0 }
theorem Fr.over {S : Nat → Prop} {w0 w w' : World} (h : Fr All w0 w) (k : Fr S w w') (hs : ∀ x, x < w0.heap.size → S x) : Fr All w0 w' :=
  ⟨k.os.trans h.os, k.tape.trans h.tape, k.output.trans h.output, Nat.le_trans h.size k.size, fun b hb _ => (k.block b (Nat.lt_of_lt_of_le hb h.size) (hs b hb)).trans (h.block b hb trivial)⟩

end Go.Proofs.YteclgcnndjcmmaaDoor
