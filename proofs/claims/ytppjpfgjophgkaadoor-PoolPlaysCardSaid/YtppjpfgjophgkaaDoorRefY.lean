/- sextetref.Bytes; a byte of an own row turned. -/
import Derived.Test.YtppjpfgjophgkaaDoorRef
import Derived.Test.YtppjpfgjophgkaaDoorClone
import Derived.Laws.MakeOwn
import Derived.Laws.OwnMore
namespace Go.Proofs.YtppjpfgjophgkaaDoor
open Go.RowKit

theorem run_mk {P : Program} {α : Type} (d : Kd α) (S : Nat → Prop) (w : World) (base : Nat) (t e : TypeId) (z : Value) (bytes : Nat) (ht : P.underlying t = some (.slice e)) (hinfo : (P.info? e).map (fun i => (i.zero, i.size, i.bytes)) = some (some z, d.sz, bytes))
    (c : Nat) (hbytes : bytes * c ≤ 281474976710656) (h63 : c ≤ maxLen) (hbase : base ≤ w.heap.size) :
    ∃ w', (Instr.makeSlice t (.int .i64 0) (.int .i64 (c : Int))).run P w = .ok (.slice (some ⟨w.heap.size, 0, none⟩) 0 c) w' ∧ Own d e base S w' (.slice (some ⟨w.heap.size, 0, none⟩) 0 c) ([] : List α) ∧ Fr All w w' := by
  obtain ⟨i0, hi, hzz⟩ := Option.map_eq_some_iff.1 hinfo
  simp only [Prod.mk.injEq] at hzz
  obtain ⟨hz0, hz1, hz2⟩ := hzz
  have h63' : (c : Int) ≤ 9223372036854775807 := by
    have h := h63
    simp [maxLen] at h
    omega
  have hb' : (i0.bytes : Int) * (c : Int) ≤ 281474976710656 := by
    rw [hz2]
    have h : ((bytes * c : Nat) : Int) ≤ 281474976710656 := by omega
    rwa [Int.natCast_mul] at h
  have hr := run_make (P := P) w t e i0 z ht hi hz0 .i64 .i64 0 c (Int.le_refl _) (by omega) hb' h63'
  simp only [Int.toNat_zero, Int.toNat_natCast] at hr
  rw [hz1] at hr
  exact ⟨_, hr, ⟨[], World.ownsRow_made w _ c hbase h63 (size_madeCells _ _), rfl⟩, (Fr.refl _ _).alloc _⟩

set_option maxRecDepth 100000 in
set_option maxHeartbeats 1000000 in
theorem ref_bytes {v : Value} {xs : List UInt8} {S : Nat → Prop} {w : World} (h : Sl kByte S w v xs) (hn : xs.length ≤ 1000000) :
    Calls Tryd.prog 56 #[v] w fun e w' => ∃ v', e = .returned v' ∧ Own kByte 5 w.heap.size All w' v' xs ∧ Fr All w w' := by
  obtain ⟨A, n, c, rfl, en, _⟩ := h.open_
  have En := Lib.hid en
  rw [en] at hn
  clear en
  obtain ⟨w1, hmk, o1, f1⟩ := run_mk (P := Tryd.prog) kByte All w w.heap.size 31 5 (.int .u8 0) 1 Tryd.underlying31 info_u8 n (by omega) (by simp only [maxLen]; omega) (Nat.le_refl _)
  go_enter Tryd.func56, Tryd.ntmps56
  go_wp2_with fail
  have H1 := f1.size
  clear hmk
  go_loopw [3, 4] (fun u i wr => ∃ k : Nat, k ≤ n ∧ i = .int .i64 k ∧ Own kByte 5 w.heap.size All wr u (xs.take k) ∧ Fr All w wr) (fun _ i _ => n - (intOf i).toNat)
  case atStart => exact ⟨0, Nat.zero_le _, rfl, o1, f1⟩
  case round =>
    obtain ⟨k, hk, rfl, HO, HF⟩ := hrel
    obtain ⟨A', c', rfl⟩ := HO.length
    by_cases hlt : k < n
    · obtain ⟨x, hx, _⟩ := get_of (l := xs) (k := k) (by rw [En.out]; exact hlt)
      obtain ⟨b, o, hA, c0⟩ := (h.all HF).at1 hx
      subst hA
      have b0 : (0 : Int) ≤ (k : Int) := by omega
      have b1 : (k : Int) < (n : Int) := by omega
      have Hx := Lib.hid hx
      have hl : (xs.take k).length ≤ 1000000 := by rw [List.length_take]; omega
      have HO2 : Own kByte 5 w.heap.size All (wr.alloc (.cells #[.int .u8 (x.toNat : Int)] 5)) (.slice A' (xs.take k).length c') (xs.take k) := HO.all ((Fr.refl All wr).alloc _)
      have HY : Src kByte Nowhere (wr.alloc (.cells #[.int .u8 (x.toNat : Int)] 5)) (.slice (some ⟨wr.heap.size, 0, none⟩) 1 1) [x] := Src.box (d := kByte) (x := x) (cs := [.int .u8 (x.toNat : Int)]) rfl _ 1
      have HS := HF.size
      clear hx
      go_wp2_with (at_builtin; refine wpList_app rfl rfl Tryd.underlying31 info_u8 rfl (by decide) HO2 HY rfl rfl (fun _ h _ => h.elim) (by simp only [List.length_cons, List.length_nil]; omega) (by simp; omega) ?_; intro v' w' h3 h4 h5)
      go_roundw
      case rel => exact ⟨k + 1, by omega, by go_num, by rw [take_snoc Hx.out]; exact h3, (HF.alloc _).row h4.grown fun m hm => (own_lt HO2 m hm).1⟩
      case measure => simp [intOf]; omega
    · obtain rfl : k = n := by omega
      have HT : ∀ v, Own kByte 5 w.heap.size All wr v (xs.take k) → Own kByte 5 w.heap.size All wr v xs := fun v h => by
        rw [List.take_of_length_le (by rw [En.out]; exact Nat.le_refl _)] at h
        exact h
      go_wp2_with fail
      go_ret
      exact ⟨_, rfl, HT _ HO, HF⟩

theorem own_byte_put {e : TypeId} {base : Nat} {w : World} {v : Value} {xs : List UInt8} (h : Own kByte e base All w v xs) {k : Nat} {b : UInt8} (hk : xs[k]? = some b) (y : UInt8) :
    ∃ g c, v = .slice (some ⟨g, 0, none⟩) xs.length c ∧ base ≤ g ∧ g < w.heap.size ∧ w.cell? ⟨g, k, none⟩ = some (.int .u8 (b.toNat : Int)) ∧ w.frozen? ⟨g, k, none⟩ = false ∧ Own kByte e base All (w.setCell ⟨g, k, none⟩ (.int .u8 (y.toNat : Int))) v (xs.set k y) := by
  have hsl := h.sl
  have hlen := (List.getElem?_eq_some_iff.1 hk).1
  obtain ⟨cs, ho, hr⟩ := h
  have hcs : cs = xs.map fun b => Value.int .u8 (b.toNat : Int) := by
    have : ∀ {xs : List UInt8} {cs : List Value}, Reps kByte (fun x => All x ∧ some x ≠ v.ownBlock) w xs cs → cs = xs.map fun b => Value.int .u8 (b.toNat : Int) := by
      intro xs
      induction xs with
      | nil => intro cs h; exact h
      | cons x xs ih =>
        rintro cs ⟨c1, c2, rfl, h1, h2⟩
        have h1' : c1 = [Value.int .u8 (x.toNat : Int)] := h1
        rw [h1', ih h2]
        rfl
    exact this hr
  subst hcs
  rcases ho.2 with ⟨_, h0⟩ | ⟨g, cap, cur, rfl, hg, hcell, hn, hm, hsz, htk⟩
  · omega
  obtain ⟨hc1, hz⟩ := blk_cells hcell
  obtain ⟨g', o', hA', hck⟩ := hsl.at1 hk
  have hA2 := Option.some.inj hA'
  injection hA2 with hg1 ho1 _
  subst hg1
  subst ho1
  rw [Nat.zero_add] at hck
  have hst := (ho.stored k (.int .u8 (y.toNat : Int))).1
  refine ⟨g, cap, rfl, hg, World.block_lt_of_cell? w ⟨g, k, none⟩ hck, hck, hz k, (xs.set k y).map fun b => Value.int .u8 (b.toNat : Int), ?_, ?_⟩
  · rw [List.length_set, List.map_set]
    exact hst
  · have : ∀ {S : Nat → Prop} {w : World} (xs : List UInt8), Reps kByte S w xs (xs.map fun b => Value.int .u8 (b.toNat : Int)) := by
      intro S w xs
      induction xs with
      | nil => rfl
      | cons x xs ih => exact ⟨[_], _, rfl, rfl, ih⟩
    exact this _
theorem ref_bytes2 {v : Value} {xs : List UInt8} {S : Nat → Prop} {w : World} (h : Sl kByte S w v xs) (hn : xs.length ≤ 1000000) :
    Calls Tryd.prog 56 #[v] w fun e w' => ∃ A c, e = .returned (.slice A xs.length c) ∧ Own kByte 5 w.heap.size All w' (.slice A xs.length c) xs ∧ Fr All w w' :=
  (ref_bytes h hn).mono fun e w' ⟨v', he, ho, hf⟩ => by
    obtain ⟨A', c', rfl⟩ := ho.length
    exact ⟨A', c', he, ho, hf⟩
end Go.Proofs.YtppjpfgjophgkaaDoor
