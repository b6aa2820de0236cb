/- The disk's functions: Sync, Arm, Erase. -/
import Derived.Test.YteikddopeplomaaDoorDkR
namespace Go.Proofs.YteikddopeplomaaDoor
open Go.RowKit Go.Maps

/-- Behind a Sync that did well. -/
def DSt.synced (s : DSt) (n : Nat) : DSt := { s.up with syn := fun k => s.up.pen k <|> s.up.syn k, ns := n, pen := fun _ => none, np := 0, calls := s.up.calls + 1 }
theorem DSt.up_same (s : DSt) : s.up.pen = s.pen ∧ s.up.np = s.np ∧ s.up.syn = s.syn ∧ s.up.ns = s.ns ∧ s.up.calls = s.calls ∧ s.up.blocks = s.blocks := by
  unfold DSt.up
  split <;> exact ⟨rfl, rfl, rfl, rfl, rfl, rfl⟩

set_option maxRecDepth 100000 in
set_option maxHeartbeats 2000000 in
theorem sync_call {w : World} {B bs bp : Nat} {s : DSt} (h : Dk w B bs bp s) (ha : s.arm ≤ 9223372036854775807) (hu : s.up.down = false) (hn : s.ns + s.np ≤ 100000) (hc0 : 0 ≤ s.calls) (hc : s.calls ≤ 1000000) :
    Calls Tryd.prog 36 #[.pointer (some ⟨B, 0, none⟩)] w fun e w' => e = .returned .nilIface ∧ (∃ n', n' ≤ s.ns + s.np ∧ Dk w' B bs bp (s.synced n')) ∧ Fr (Off B bs bp) w w' := by
  obtain ⟨t, ht⟩ : ∃ t, s.up = t := ⟨_, rfl⟩
  obtain ⟨_, g2, _, g4, g5, _⟩ := s.up_same
  have hsy : ∀ n, s.synced n = { t with syn := fun k => t.pen k <|> t.syn k, ns := n, pen := fun _ => none, np := 0, calls := t.calls + 1 } := fun n => by
    unfold DSt.synced
    rw [ht]
  have HY := Lib.hid hsy
  have hcall := up_call h ha
  rw [ht] at hcall hu g2 g4 g5
  rw [hu] at hcall
  rw [← g2, ← g4] at hn ⊢
  rw [← g5] at hc0 hc
  have hw : IntKind.i64.wrap (t.calls + 1) = t.calls + 1 := IntWalk.i64_in _ (by omega)
  have HC := Lib.hid hcall
  clear h ht hcall g2 g4 g5 hsy
  go_enter Tryd.func36, Tryd.ntmps36
  go_wp2_with fail
  refine HC.out.mono ?_
  rintro e w1 ⟨rfl, h1, f1⟩
  have c1 := h1.c1
  have c2 := h1.c2
  have H1 := Lib.hid h1
  clear h1
  go_upto_region 3 with (fail)
  go_region_held3 (fun w' => w'.cell? ⟨B, 1, none⟩ = some (.map (some bs)) ∧ w'.cell? ⟨B, 2, none⟩ = some (.map (some bp)))
    (first | go_keep | (go_split_ands; refine ⟨?_, ?_⟩ <;> exact Fr.cell (by assumption) H1.out.n1 (by assumption)))
    (first
      | (go_at_call 71; refine (copy_call (H1.out.all (Fr.refl All w1).drew).syn (H1.out.all (Fr.refl All w1).drew).pen H1.out.n3 (fun x hx => hx.2.1) (by omega)).mono ?_; rintro e w2 ⟨rfl, ⟨n2, hn2, m2⟩, m3, f2⟩))
  have F2 : Fr (fun x => x ≠ bs) w1 w2 := ((Fr.refl _ w1).drew).trans f2
  have D2 : Dk w2 B bs bp { t with syn := fun k => t.pen k <|> t.syn k, ns := n2 } := H1.out.stays F2 H1.out.n1 rfl rfl rfl rfl m2 m3
  obtain ⟨w3, hr, m4, f3⟩ := D2.pen.clear Tryd.underlying103 0
  have D3 : Dk w3 B bs bp { t with syn := fun k => t.pen k <|> t.syn k, ns := n2, pen := fun _ => none, np := 0 } := D2.stays f3 D2.n2 rfl rfl rfl rfl (D2.syn.move f3 D2.n3 fun x hx _ => hx.2.2) m4
  have q2 := D2.c2
  obtain ⟨c0, c1', c2', c3, c4, c5, cz⟩ : _ ∧ _ ∧ _ ∧ _ ∧ _ ∧ _ ∧ _ := ⟨D3.c0, D3.c1, D3.c2, D3.c3, D3.c4, D3.c5, D3.cz⟩
  have H3 := Lib.hid D3
  have HN := Lib.hid hn2
  clear D2 D3 m2 m3 m4 hn2
  dsimp only at c0 c1' c2' c3 c4 c5
  go_wp2_with fail
  go_ret
  have F5 : Fr (fun x => x ≠ B) w3 (w3.setCell ⟨B, 3, none⟩ (.int .i64 (t.calls + 1))) := (Fr.refl _ _).setCell (fun m hm => by exact hm) _
  refine ⟨rfl, ⟨n2, HN.out, ?_⟩, ?_⟩
  · rw [HY.out n2]
    refine H3.out.cells F5 rfl rfl rfl rfl ?_ ?_ ?_ ?_ ?_ ?_ ?_
    · go_simp
    · go_simp
    · go_simp
    · go_simp
    · go_simp
    · go_simp
    · intro j
      go_simp
  · exact (((f1.mono fun x (hx : Off B bs bp x) => hx.1).trans (F2.mono fun x (hx : Off B bs bp x) => hx.2.1)).trans (f3.mono fun x (hx : Off B bs bp x) => hx.2.2)).trans (F5.mono fun x (hx : Off B bs bp x) => hx.1)
end Go.Proofs.YteikddopeplomaaDoor
