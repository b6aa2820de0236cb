/- Rows of plain cells of one's own: written at a place; made. -/
import Derived.Test.YtalidmlomfobdaaDoorRef
import Derived.Test.YtalidmlomfobdaaDoorProg
import Derived.KernelRfl
import Derived.Laws.OwnMore
namespace Go.Proofs.YtalidmlomfobdaaDoor
open Go.RowKit

section
variable {α : Type} {enc : α → Value} {h1 : ∀ x, (enc x).oneCell' = true}
theorem prow_get {S : Nat → Prop} {w : World} : ∀ {xs : List α} {cs : List Value}, Reps (Kd.plain enc h1) S w xs cs → cs = xs.map enc
  | [], _, h => h
  | x :: xs, _, ⟨c1, c2, he, hk, hr⟩ => by
    have hk : c1 = [enc x] := hk
    rw [he, hk, prow_get hr]
    rfl
theorem prow_mk {S : Nat → Prop} {w : World} : ∀ xs : List α, Reps (Kd.plain enc h1) S w xs (xs.map enc)
  | [] => rfl
  | x :: xs => ⟨[enc x], _, rfl, rfl, prow_mk xs⟩
theorem own_plain_put {e : TypeId} {base : Nat} {w : World} {v : Value} {xs : List α} (h : Own (Kd.plain enc h1) e base All w v xs) {k : Nat} {b : α} (hk : xs[k]? = some b) (y : α) :
    ∃ g c, v = .slice (some ⟨g, 0, none⟩) xs.length c ∧ base ≤ g ∧ g < w.heap.size ∧ w.cell? ⟨g, k, none⟩ = some (enc b) ∧ w.frozen? ⟨g, k, none⟩ = false ∧ Own (Kd.plain enc h1) e base All (w.setCell ⟨g, k, none⟩ (enc y)) v (xs.set k y) := by
  have hsl := h.sl
  have hlen := (List.getElem?_eq_some_iff.1 hk).1
  obtain ⟨cs, ho, hr⟩ := h
  have hcs := prow_get hr
  subst hcs
  rcases ho.2 with ⟨_, h0⟩ | ⟨g, cap, cur, rfl, hg, hcell, hn, hm, hsz, htk⟩
  · omega
  obtain ⟨hc1, hz⟩ := blk_cells hcell
  obtain ⟨g', o', hA', hck⟩ := hsl.at1 hk
  have hA2 := Option.some.inj hA'
  injection hA2 with hg1 ho1 _
  subst hg1
  subst ho1
  rw [Nat.zero_add] at hck
  have hst := (ho.stored k (enc y)).1
  refine ⟨g, cap, rfl, hg, World.block_lt_of_cell? w ⟨g, k, none⟩ hck, hck, hz k, (xs.set k y).map enc, ?_, prow_mk _⟩
  rw [List.length_set, List.map_set]
  exact hst
theorem run_mkp (w : World) {t e : TypeId} {z : α} {bytes : Nat} (ht : Tryd.prog.underlying t = some (.slice e)) (hinfo : (Tryd.prog.info? e).map (fun i => (i.zero, i.size, i.bytes)) = some (some (enc z), 1, bytes)) (hcl : (enc z).cells = #[enc z]) {n : Nat} (hn : n ≤ 1000000) (hb : bytes ≤ 1000) :
    ∃ w', (Instr.makeSlice t (.int .i64 (n : Int)) (.int .i64 (n : Int))).run Tryd.prog w = .ok (.slice (some ⟨w.heap.size, 0, none⟩) n n) w' ∧ Own (Kd.plain enc h1) e w.heap.size All w' (.slice (some ⟨w.heap.size, 0, none⟩) n n) (List.replicate n z) ∧ Fr All w w' := by
  obtain ⟨i0, hi, hzz⟩ := Option.map_eq_some_iff.1 hinfo
  simp only [Prod.mk.injEq] at hzz
  obtain ⟨hz0, hz1, hz2⟩ := hzz
  have hbb : (i0.bytes : Int) * (n : Int) ≤ 281474976710656 := by
    rw [hz2]
    have h2 : bytes * n ≤ 1000 * 1000000 := Nat.mul_le_mul hb hn
    have h3 : ((bytes * n : Nat) : Int) ≤ 1000000000 := by omega
    rw [Int.natCast_mul] at h3
    omega
  have hr := run_make (P := Tryd.prog) w t e i0 (enc z) ht hi hz0 .i64 .i64 n n (by omega) (by omega) hbb (by omega)
  simp only [Int.toNat_natCast] at hr
  rw [hz1, Nat.mul_one] at hr
  have he : madeCells (enc z).cells n = ((List.replicate n z).map enc).toArray := by
    apply Array.toList_inj.1
    rw [List.map_replicate, hcl]
    exact toList_madeCells_one _ n
  rw [he] at hr
  have ho := Own.lay (d := Kd.plain enc h1) (e := e) (S := All) (w := w) (prow_mk (List.replicate n z)) (Nat.le_refl _) (by simp only [maxLen, List.length_replicate]; omega)
  rw [List.length_replicate] at ho
  exact ⟨_, hr, ho, (Fr.refl _ _).alloc _⟩
end
theorem info_bool : (Tryd.prog.info? 4).map (fun i => (i.zero, i.size, i.bytes)) = some (some (.bool false), 1, 1) := by kernel_rfl
/-- make([]bool, n). -/
theorem run_mkb (w : World) {n : Nat} (hn : n ≤ 1000000) : ∃ w', (Instr.makeSlice 53 (.int .i64 (n : Int)) (.int .i64 (n : Int))).run Tryd.prog w = .ok (.slice (some ⟨w.heap.size, 0, none⟩) n n) w' ∧ Own kBool 4 w.heap.size All w' (.slice (some ⟨w.heap.size, 0, none⟩) n n) (List.replicate n false) ∧ Fr All w w' :=
  run_mkp (enc := Value.bool) w Tryd.underlying53 info_bool rfl hn (by decide)
end Go.Proofs.YtalidmlomfobdaaDoor
