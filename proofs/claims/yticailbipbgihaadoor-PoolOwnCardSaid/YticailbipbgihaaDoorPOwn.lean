/- The pool's Get of a page that is at hand: its memory is no other's. -/
import Derived.Test.YticailbipbgihaaDoorSep
import Derived.Test.YticailbipbgihaaDoorPk
namespace Go.Proofs.YticailbipbgihaaDoor
open Go.RowKit Go.Maps

set_option maxRecDepth 100000 in
set_option maxHeartbeats 1000000 in
theorem pool_get_own {w : World} {B l t : Nat} {s : PSt} {p : Page} (h : Pk w B l t s) {i : Int} (hi : In64 i) (hm : s.have_ i = some p) (ok : EntsOk p.ents) :
    Calls Tryd.prog 10 #[.pointer (some ⟨B, 0, none⟩), .int .i64 i] w fun e w' => ∃ A c rs fs, e = .returned (.tuple #[.agg #[.int .i64 p.id, .int .i64 p.lsn, .int .i64 p.level, .int .i64 p.next, .slice A p.ents.length c], .bool true]) ∧
      Own kRaw 39 w.heap.size Nowhere w' (.slice A p.ents.length c) rs ∧ Sep w.heap.size w' (.slice A p.ents.length c) fs ∧ ClE p.ents p.ents.length rs fs ∧ Pk w' B l t s ∧ Fr All w w' := by
  have F0 := (Fr.refl All w).alloc (.cells #[.int .i64 0, .int .i64 0, .int .i64 0, .int .i64 0, .slice none 0 0] 24)
  obtain ⟨v, hr, A, c, rfl, hs⟩ := (h.hv.all F0).look_some Tryd.underlying3 Tryd.underlying44 zeroPage hi hm
  have q0 := h.c0
  have hlt := h.lt
  have H := Lib.hid h
  have HS := Lib.hid hs
  obtain ⟨pid, lsn, level, next, ents⟩ := p
  dsimp only at hr HS ok ⊢
  obtain ⟨n, hn⟩ : ∃ n, ents.length = n := ⟨_, rfl⟩
  rw [hn] at hr HS
  have HN := Lib.hid hn
  clear h hm hs hn
  go_enter Tryd.func10, Tryd.ntmps10
  go_wp2_with fail
  refine (page_clone_own (p := ⟨pid, lsn, level, next, ents⟩) (HS.out.all ((Fr.refl All _).alloc (.cells #[.int .i64 pid, .int .i64 lsn, .int .i64 level, .int .i64 next, .slice A n c] 24))) ok).mono ?_
  rintro e w3 ⟨A3, c3, rs, fs, rfl, o3, s3, hC, f3⟩
  dsimp only at o3 s3 hC ⊢
  have B3 := (f3.block w.heap.size (by simp; omega) trivial).trans (heap_alloc2_old w (.cells #[.int .i64 0, .int .i64 0, .int .i64 0, .int .i64 0, .slice none 0 0] 24) (.cells #[.int .i64 pid, .int .i64 lsn, .int .i64 level, .int .i64 next, .slice A n c] 24))
  obtain ⟨e0, e1, e2, e3, e4, ez⟩ := blk5 B3
  have F3 : Fr All w w3 := (F0.alloc (.cells #[.int .i64 pid, .int .i64 lsn, .int .i64 level, .int .i64 next, .slice A n c] 24)).trans f3
  have hsz := f3.size
  simp only [World.size_alloc] at hsz o3 s3
  have HO := Lib.hid o3
  have HP := Lib.hid s3
  have HC := Lib.hid hC
  clear o3 s3 hC hr f3 B3 q0
  go_wp2_with fail
  have FS : Fr (fun b => b ≠ w.heap.size) w3 (((((w3.setCell ⟨w.heap.size, 0, none⟩ (.int .i64 pid)).setCell ⟨w.heap.size, 1, none⟩ (.int .i64 lsn)).setCell ⟨w.heap.size, 2, none⟩ (.int .i64 level)).setCell ⟨w.heap.size, 3, none⟩ (.int .i64 next)).setCell ⟨w.heap.size, 4, none⟩ (.slice A3 ents.length c3)) := by
    repeat (first | (with_reducible exact Fr.refl _ _) | with_reducible refine Fr.setCell ?_ (fun m hm => by exact hm) _)
  have FF : Fr All w (((((w3.setCell ⟨w.heap.size, 0, none⟩ (.int .i64 pid)).setCell ⟨w.heap.size, 1, none⟩ (.int .i64 lsn)).setCell ⟨w.heap.size, 2, none⟩ (.int .i64 level)).setCell ⟨w.heap.size, 3, none⟩ (.int .i64 next)).setCell ⟨w.heap.size, 4, none⟩ (.slice A3 ents.length c3)) := by
    repeat (first | (with_reducible exact F3) | with_reducible refine Fr.setNew ?_ (by dsimp only; omega) _)
  refine bodyPost_ret (v := .tuple #[.agg #[.int .i64 pid, .int .i64 lsn, .int .i64 level, .int .i64 next, .slice A3 ents.length c3], .bool true]) ?_ rfl ⟨A3, c3, rs, fs, rfl, ?_, ?_, HC.out, H.out.all FF, FF⟩
  · simp [results, Tryd.results10, go_sem, e0, e1, e2, e3, e4]
  · exact (HO.out.move FS (fun _ hb _ => hb.elim) fun k hk => by have := (own_lt HO.out k hk).1; omega).lower (by omega)
  · exact (HP.out.move FS fun b hb => by omega).lower (by omega)
end Go.Proofs.YticailbipbgihaaDoor
