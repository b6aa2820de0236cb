/- page.Clone: a page of its own. -/
import Derived.Test.YtppjpfgjophgkaaDoorClone
import Derived.Deep.RegionHeld3
import Derived.Deep.DeepFit
import Derived.Deep.LoopGhost
import Derived.BigQuiet
import Derived.Deep.QuietTactic
namespace Go.Proofs.YtppjpfgjophgkaaDoor
open Go.RowKit

theorem info_ent : (Tryd.prog.info? 65).map (fun i => (i.zero, i.size, i.bytes)) = some (some (.agg #[.slice none 0 0, .slice none 0 0]), kEnt.sz, 48) := by kernel_rfl

/-- A page's entries are few and short. -/
def EntsOk (l : List Ent) : Prop := l.length ≤ 1000000 ∧ ∀ e ∈ l, e.key.length ≤ 1000000 ∧ e.val.length ≤ 1000000

set_option maxRecDepth 100000 in
set_option maxHeartbeats 1000000 in
theorem page_clone {p : Page} {v : Value} {S : Nat → Prop} {w : World} (h : Sl kEnt S w v p.ents) (ok : EntsOk p.ents) :
    Calls Tryd.prog 28 #[.agg #[.int .i64 p.id, .int .i64 p.lsn, .int .i64 p.level, .int .i64 p.next, v]] w fun e w' => ∃ v', e = .returned (.agg #[.int .i64 p.id, .int .i64 p.lsn, .int .i64 p.level, .int .i64 p.next, v']) ∧ Own kEnt 65 w.heap.size (From w.heap.size) w' v' p.ents ∧ Fr All w w' := by
  obtain ⟨A, c, rfl, hc, hm, hx⟩ := id h
  go_enter Tryd.func28, Tryd.ntmps28
  go_wp2_with fail
  have hn : p.ents.length ≤ 1000000 := ok.1
  go_loopw [3, 9] (fun l i wr => ∃ k : Nat, k ≤ p.ents.length ∧ i = .int .i64 k ∧ Own kEnt 65 (w.heap.size + 2) (From (w.heap.size + 2)) wr l (p.ents.take k) ∧ Fr All w wr ∧
      wr.heap[w.heap.size]? = some (.cells #[.int .i64 p.id, .int .i64 p.lsn, .int .i64 p.level, .int .i64 p.next, .slice A p.ents.length c] 30 (0, 0)) ∧
      wr.heap[w.heap.size + 1]? = some (.cells #[.int .i64 0, .int .i64 0, .int .i64 0, .int .i64 0, .slice none 0 0] 30 (0, 0)))
    (fun _ i _ => p.ents.length - (intOf i).toNat)
  case atStart => exact ⟨0, Nat.zero_le _, rfl, Own.nil_ _ _ _ _ _, ((Fr.refl All w).alloc _).alloc _, heap_alloc2_old _ _ _, heap_alloc2_new _ _ _⟩
  case round =>
    obtain ⟨k, hk, rfl, HO, HF, B1, B2⟩ := hrel
    by_cases hlt : k < p.ents.length
    · obtain ⟨b, o, rfl, hS, hr⟩ := hx (by omega)
      obtain ⟨x, hi, hmem⟩ := get_of hlt
      obtain ⟨cs, hK, hcell⟩ := hr k x hi
      have Hi := Lib.hid hi
      obtain ⟨v0, v1, rfl, k0, k1⟩ := kEnt_open hK
      obtain ⟨A0, n0, rfl, _⟩ := id k0
      obtain ⟨A1, n1, rfl, _⟩ := id k1
      have c0 : wr.cell? ⟨b, o + k * 2, none⟩ = _ := HF.cell (p := ⟨b, o + k * 2, none⟩) trivial (hcell 0 _ rfl)
      have c1 : wr.cell? ⟨b, o + k * 2 + 1, none⟩ = _ := HF.cell (p := ⟨b, o + k * 2 + 1, none⟩) trivial (hcell 1 _ rfl)
      clear hcell
      have q0 := (ok.2 x hmem).1
      have q1 := (ok.2 x hmem).2
      clear hx hr hK hi hmem
      have l1 := blk_lt B1
      have l2 := blk_lt B2
      have hnew : ∀ m, wr.heap.size ≤ m → ∀ b, m ≤ b → ∀ n : Nat, b < n → From (w.heap.size + 2) b ∧ some b ≠ u3.ownBlock := fun m hm b hb n hn => ⟨by unfold From; omega, fun hh => by have := own_lt HO b hh.symm; omega⟩
      go_wp2_with fail
      go_region_held3 (fun w' => w'.cell? ⟨wr.heap.size, 0, none⟩ = some (.slice A0 x.key.length n0) ∧ w'.cell? ⟨wr.heap.size, 1, none⟩ = some (.slice A1 x.val.length n1))
        (first | go_keep | (refine ⟨?_, ?_⟩ <;> go_keep; done) | (go_split_ands; refine ⟨?_, ?_⟩ <;> exact Fr.cell (by assumption) trivial (by assumption)) | (go_split_ands; refine ⟨?_, ?_⟩ <;> exact h4.cell (fun hh => by have := own_lt HO _ hh.symm; simp at this) (by assumption)))
        (first
          | (go_at_call_of 48 (Value.slice A0 x.key.length n0); refine (clone_bytes (k0.all (HF.alloc _).drew) (by omega)).mono ?_; rintro e w1 ⟨A2, n2, rfl, o1, f1⟩)
          | (go_at_call_of 48 (Value.slice A1 x.val.length n1); refine (clone_bytes (k1.all ((HF.alloc _).drew.then_all f1)) (by omega)).mono ?_; rintro e w2 ⟨A3, n3, rfl, o2, f2⟩)
          | (
              have s1 : Sl kByte (fun b => From (w.heap.size + 2) b ∧ some b ≠ u3.ownBlock) w2 (.slice A2 x.key.length n2) x.key := (o1.all f2).plain_in (fun b hb hl => hnew _ (by simp) b hb _ hl)
              have s2 : Sl kByte (fun b => From (w.heap.size + 2) b ∧ some b ≠ u3.ownBlock) w2 (.slice A3 x.val.length n3) x.val := o2.plain_in (fun b hb hl => hnew _ (by have := f1.size; simp at this; omega) b hb _ hl)
              with_reducible refine step_of ?_ ?_
              · rfl
              refine wp_app rfl Tryd.underlying28 info_ent rfl (by decide) (HO.all (((((Fr.refl All wr).alloc _).drew.then_all f1).then_all f2).alloc _)) (Src.box (kEnt_mk s1 s2) _ 1) rfl rfl (fun b hb _ => hb) ?_ ?_ ?_
              · (simp only [List.length_take, List.length_cons, List.length_nil]; omega)
              · (have := f1.size; have := f2.size; simp at *; omega)
              intro u4 w4 h3 h4 h5))
      have F2 := ((((Fr.refl All wr).alloc (.cells #[.slice A0 x.key.length n0, .slice A1 x.val.length n1] 65)).drew.then_all f1).then_all f2).alloc (.cells #[.slice A2 x.key.length n2, .slice A3 x.val.length n3] 65)
      have F3 : Fr All w w4 := (HF.trans F2).row h4.grown fun m hm => by have := own_lt HO m hm; omega
      have hbut : ∀ m, m < w.heap.size + 2 → But u3.ownBlock m := fun m hm hh => by have := own_lt HO m hh.symm; omega
      have g1 := (h4.block _ (Nat.lt_of_lt_of_le l1 F2.size) (hbut _ (by omega))).trans ((F2.block _ l1 trivial).trans B1)
      have g2 := (h4.block _ (Nat.lt_of_lt_of_le l2 F2.size) (hbut _ (by omega))).trans ((F2.block _ l2 trivial).trans B2)
      rw [← take_snoc Hi.out] at h3
      clear F2 B1 B2 h5 hbut hnew
      go_wp2_with fail
      go_roundw
      case rel => exact ⟨k + 1, by omega, by go_num, h3, F3, g1, g2⟩
      case measure => simp [intOf]; omega
    · obtain ⟨b1, b1'⟩ := blk_cells B1
      obtain ⟨b2, b2'⟩ := blk_cells B2
      obtain rfl : k = p.ents.length := by omega
      rw [List.take_length] at HO
      obtain ⟨A3, c3, rfl⟩ := HO.length
      go_wp2_with fail
      refine bodyPost_ret (v := .agg #[.int .i64 p.id, .int .i64 p.lsn, .int .i64 p.level, .int .i64 p.next, .slice A3 p.ents.length c3]) ?_ rfl ⟨_, rfl, ?_, ?_⟩
      · simp [results, Tryd.results28, go_sem, b2]
      · refine ((HO.move (T := fun m => m ≠ w.heap.size ∧ m ≠ w.heap.size + 1) ?_ (fun m hm _ => ⟨by unfold From at hm; omega, by unfold From at hm; omega⟩) (fun m hm => by have := own_lt HO m hm; exact ⟨by omega, by omega⟩)).mono fun m hm _ => by unfold From at hm ⊢; omega).lower (by omega)
        repeat (first | (with_reducible exact Fr.refl _ _) | with_reducible refine Fr.setCell ?_ (fun m hm => by first | exact hm.1 | exact hm.2) _)
      · repeat (first | (with_reducible exact HF) | with_reducible refine Fr.setNew ?_ (by simp) _)

theorem page_clone' {p : Page} {v : Value} {S : Nat → Prop} {w : World} (h : Sl kEnt S w v p.ents) (ok : EntsOk p.ents) :
    Calls Tryd.prog 28 #[.agg #[.int .i64 p.id, .int .i64 p.lsn, .int .i64 p.level, .int .i64 p.next, v]] w fun e w' => ∃ A c, e = .returned (.agg #[.int .i64 p.id, .int .i64 p.lsn, .int .i64 p.level, .int .i64 p.next, .slice A p.ents.length c]) ∧ Own kEnt 65 w.heap.size (From w.heap.size) w' (.slice A p.ents.length c) p.ents ∧ Fr All w w' :=
  (page_clone h ok).mono fun e w' ⟨v', he, ho, hf⟩ => by
    obtain ⟨A', c', rfl⟩ := ho.length
    exact ⟨A', c', he, ho, hf⟩
end Go.Proofs.YtppjpfgjophgkaaDoor
