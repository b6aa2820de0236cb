/- slices.Delete of one element of a row of one's own: in place. -/
import Derived.Test.YtppjpfgjophgkaaDoorInsertEnt
namespace Go.Proofs.YtppjpfgjophgkaaDoor
open Go.RowKit

theorem run_clear_sz {P : Program} (w : World) (t ty e : TypeId) (i0 : TypeInfo) (z : Value) (g o n c : Nat) (cur : Array Value) (hu : P.underlying t = some (.slice e)) (hi : P.info? e = some i0) (hz : i0.zero = some z) (hn : 0 < n)
    (hg : w.heap[g]? = some (.cells cur e (0, 0))) (hfit : o + n * z.cells.size ≤ cur.size) (h1 : ∀ v ∈ (Builtin.zeroCells z.cells n).toList, v.oneCell' = true) :
    (Builtin.clear_ #[t] ty #[.slice (some ⟨g, o, none⟩) n c]).run P w = .ok (.tuple #[]) (w.setRow g (splice cur.toList o (Builtin.zeroCells z.cells n).toList).toArray) := by
  have hst := run_storeCells_at P g o e (Builtin.zeroCells z.cells n).toList 0 cur w hg (by rw [Array.length_toList, size_zeroCells]; omega) h1
  obtain ⟨m, rfl⟩ : ∃ m, n = m + 1 := ⟨n - 1, by omega⟩
  simp [Builtin.clear_, run_underlying hu, zeroValue, typeInfo, hi, hz, hst, splice]

set_option maxRecDepth 100000 in
set_option maxHeartbeats 1000000 in
theorem deleteEnt_at {g n c : Nat} {cur : Array Value} {cs : List Value} {w : World} {i : Nat} (hg : w.heap[g]? = some (.cells cur 65 (0, 0))) (hcs : cur.size = c * 2) (ht : cur.toList.take (n * 2) = cs) (hi : i < n) (hnc : n ≤ c) (hc : c ≤ maxLen)
    (h1c : ∀ u ∈ cs, u.oneCell' = true) :
    Calls Tryd.prog 55 #[.slice (some ⟨g, 0, none⟩) n c, .int .i64 i, .int .i64 (i + 1)] w fun e w' => ∃ L : List Value, e = .returned (.slice (some ⟨g, 0, none⟩) (n - 1) c) ∧ L.length = c * 2 ∧ L.take ((n - 1) * 2) = cs.take (i * 2) ++ cs.drop ((i + 1) * 2) ∧
      w'.heap[g]? = some (.cells L.toArray 65 (0, 0)) ∧ Fr (But (some g)) w w' := by
  obtain ⟨i0, hi0, hz0, hzs, hzb⟩ := info_parts infoEnt
  have hN : cs.length = n * 2 := by rw [← ht, List.length_take, Array.length_toList, hcs]; omega
  have hd : (cs.drop ((i + 1) * 2)).length = (n - (i + 1)) * 2 := by rw [List.length_drop, hN]; omega
  have r1 : ∀ (a : Addr) (C : Nat) ty, (n - (i + 1) ≠ 0 → a = ⟨g, (i + 1) * 2, none⟩) → (Builtin.append_ #[28, 28] ty #[.slice (some ⟨g, 0, none⟩) i c, .slice (some a) (n - (i + 1)) C]).run Tryd.prog w.drew = .ok (.slice (some ⟨g, 0, none⟩) (n - 1) c) (w.drew.setRow g (splice cur.toList (i * 2) (cs.drop ((i + 1) * 2))).toArray) := fun a C ty ha => by
    have h := run_append_room (P := Tryd.prog) w.drew 28 ty 65 i0 Tryd.underlying28 hi0 g i c cur hg a (n - (i + 1)) C (cs.drop ((i + 1) * 2)) (by rw [hd, hzs]; rfl)
      (fun j v hj => by
        have hlt := (List.getElem?_eq_some_iff.1 hj).1
        rw [hd] at hlt
        rw [ha (by omega), addr_lit]
        rw [List.getElem?_drop, ← ht, List.getElem?_take] at hj
        split at hj
        · rw [World.cell?_drew, cell_of_row w g _ cur _ _ hg]; simpa using hj
        · cases hj) (fun v hv => h1c v (List.mem_of_mem_drop hv)) (by omega) (by rw [hzs, hd, hcs]; show i * 2 + (n - (i + 1)) * 2 ≤ c * 2; omega)
    rw [show i + (n - (i + 1)) = n - 1 by omega, hzs] at h
    rw [h]
    simp only [splice, List.append_assoc]
    rfl
  obtain ⟨L1, hL1⟩ : ∃ L1, L1 = splice cur.toList (i * 2) (cs.drop ((i + 1) * 2)) := ⟨_, rfl⟩
  have h0 : cur.toList.length = c * 2 := (Array.length_toList).trans hcs
  have hl1 : L1.length = c * 2 := by rw [hL1, length_splice _ _ _ (by rw [hd, h0]; omega), h0]
  obtain ⟨W1, hW1⟩ : ∃ W1, W1 = w.drew.setRow g L1.toArray := ⟨_, rfl⟩
  have g1 : W1.heap[g]? = some (.cells L1.toArray 65 (0, 0)) := by rw [hW1]; exact setRow_heap w.drew _ _ _ _ _ hg
  rw [← hL1, ← hW1] at r1
  obtain ⟨L2, hL2⟩ : ∃ L2, L2 = splice L1 ((n - 1) * 2) (Builtin.zeroCells (Value.cells (.agg #[.slice none 0 0, .slice none 0 0])) 1).toList := ⟨_, rfl⟩
  have hzc : (Builtin.zeroCells (Value.cells (.agg #[.slice none 0 0, .slice none 0 0])) 1).toList = (Value.cells (.agg #[.slice none 0 0, .slice none 0 0])).toList := by kernel_rfl
  have hzl : (Builtin.zeroCells (Value.cells (.agg #[.slice none 0 0, .slice none 0 0])) 1).toList.length = 2 := by rw [Array.length_toList, size_zeroCells]; rfl
  have hl2 : L2.length = c * 2 := by rw [hL2, length_splice _ _ _ (by rw [hzl, hl1]; omega), hl1]
  obtain ⟨W2, hW2⟩ : ∃ W2, W2 = W1.setRow g L2.toArray := ⟨_, rfl⟩
  have r2 : ∀ ty C, (Builtin.clear_ #[28] ty #[.slice (some ⟨g, (n - 1) * 2, none⟩) (n - (n - 1)) C]).run Tryd.prog W1 = .ok (.tuple #[]) W2 := fun ty C => by
    rw [show n - (n - 1) = 1 by omega]
    have h := run_clear_sz (P := Tryd.prog) W1 28 ty 65 i0 _ g ((n - 1) * 2) 1 C L1.toArray Tryd.underlying28 hi0 hz0 (by omega) g1 (by show (n - 1) * 2 + 1 * 2 ≤ L1.length; rw [hl1]; omega) (by rw [hzc]; simp [Value.cells, Value.oneCell'])
    rw [h, hW2, hL2]
  have g2 : W2.heap[g]? = some (.cells L2.toArray 65 (0, 0)) := by rw [hW2]; exact setRow_heap W1 _ _ _ _ _ g1
  have f2 : Fr (But (some g)) w W2 := ⟨by rw [hW2, hW1]; rfl, by rw [hW2, hW1]; rfl, by rw [hW2, hW1]; rfl, by rw [hW2, hW1, size_setRow, size_setRow]; exact Nat.le_refl _, fun b hb hs => by rw [hW2, hW1, setRow_setRow]; exact setRow_other w.drew g b _ fun h => hs (by rw [h])⟩
  have hfin : L2.take ((n - 1) * 2) = cs.take (i * 2) ++ cs.drop ((i + 1) * 2) := by
    apply List.ext_getElem?
    intro j
    rw [List.getElem?_take, hL2]
    by_cases hj : j < (n - 1) * 2
    · rw [if_pos hj, splice_at _ _ _ _ (by rw [hzl, hl1]; omega), if_pos hj, hL1, splice_at _ _ _ _ (by rw [hd, h0]; omega)]
      by_cases c1 : j < i * 2
      · rw [if_pos c1, List.getElem?_append_left (by rw [List.length_take, hN]; omega), List.getElem?_take, if_pos c1, ← ht, List.getElem?_take, if_pos (by omega)]
      · rw [if_neg c1, if_pos (by rw [hd]; omega), List.getElem?_append_right (by rw [List.length_take]; omega), List.length_take, Nat.min_eq_left (by rw [hN]; omega)]
    · rw [if_neg hj, List.getElem?_eq_none (by rw [List.length_append, List.length_take, hN, hd]; omega)]
  have F := Lib.hid (And.intro hl2 (And.intro hfin (And.intro g2 f2)))
  have R1 := Lib.hid r1
  clear r1 hfin hl2 g2 f2 hL2 hW2 hL1 hl1 hW1 g1 h0 hd hN hg hcs ht h1c hi0 hz0 hzs hzb hzl
  have hc63 : c ≤ 9223372036854775807 := hc
  have hin1 : i ≤ n := by omega
  have hin2 : i + 1 ≤ n := by omega
  have hne : ¬ ((i : Int) = (i : Int) + 1) := by omega
  have hw1 : IntKind.i64.wrap ((i : Int) + 1) = (i : Int) + 1 := by rw [IntKind.wrap_i64]; omega
  have hb1 : (0 : Int) ≤ (i : Int) + 1 := by omega
  have htn : ((i : Int) + 1).toNat = i + 1 := by omega
  have hb3 : (i : Int) ≤ (n : Int) := by omega
  have hb4 : (i : Int) + 1 ≤ (n : Int) := by omega
  have hb5 : (i : Int) ≤ (c : Int) := by omega
  by_cases hci : c = i + 1
  · obtain rfl : n = i + 1 := by omega
    subst hci
    have R3 := Lib.hid (R1.out ⟨g, 0, none⟩ 0 28 (fun h => absurd (by omega) h))
    have r3 : ∀ ty C, (Builtin.clear_ #[28] ty #[.slice (some ⟨g, i * 2, none⟩) 1 C]).run Tryd.prog W1 = .ok (.tuple #[]) W2 := fun ty C => by
      have h := r2 ty C
      rwa [show i + 1 - 1 = i by omega, show i + 1 - i = 1 by omega] at h
    simp only [Nat.sub_self, Nat.add_sub_cancel] at R3 F
    clear R1 r2
    have hb6 : (i : Int) ≤ (i : Int) + 1 := by omega
    have hb7 : (0 : Int) ≤ (i : Int) := by omega
    have hb8 : i ≤ i + 1 := by omega
    go_enter Tryd.func55, Tryd.ntmps55
    go_wp2_with fail
    go_region_held3 (fun _ => True) (trivial) (first
      | (
          with_reducible refine step_of ?_ ?_
          · rfl
          refine wp_run (exec_app rfl rfl rfl R3.out) ?_))
    go_wp2_with fail
    go_ret
    obtain ⟨h1, h2, h3, h4⟩ := F.out
    exact ⟨L2, rfl, h1, by rw [show i + 1 - 1 = i by omega]; exact h2, h3, h4⟩
  · go_enter Tryd.func55, Tryd.ntmps55
    go_wp2_with fail
    go_region_held3 (fun _ => True) (trivial) (first
      | (
          with_reducible refine step_of ?_ ?_
          · rfl
          refine wp_run (exec_app rfl rfl rfl (R1.out ⟨g, (i + 1) * 2, none⟩ _ _ (fun _ => rfl))) ?_))
    go_wp2_with fail
    go_ret
    obtain ⟨h1, h2, h3, h4⟩ := F.out
    exact ⟨L2, rfl, h1, h2, h3, h4⟩

/-- slices.Delete of one element of a row of one's own. -/
theorem deleteEnt {v : Value} {xs : List _} {base : Nat} {S : Nat → Prop} {w : World} {i : Nat} (HO : Own kEnt 65 base S w v xs) (hi : i < xs.length) :
    Calls Tryd.prog 55 #[v, .int .i64 i, .int .i64 (i + 1)] w fun e w' => ∃ A c, e = .returned (.slice A (xs.length - 1) c) ∧ Own kEnt 65 base S w' (.slice A (xs.length - 1) c) (xs.take i ++ xs.drop (i + 1)) ∧ Fr (But v.ownBlock) w w' ∧ (Value.slice A (xs.length - 1) c).ownBlock = v.ownBlock := by
  obtain ⟨A, c, rfl⟩ := HO.length
  obtain ⟨g, cur, cs, rfl, hbg, hg, hnc, hc, hcs, ht, _, hcl, hr⟩ := own_open HO (by omega)
  have hgv : (Value.slice (some ⟨g, 0, none⟩) xs.length c).ownBlock = some g := rfl
  rw [hgv]
  have R : Reps kEnt (fun b => S b ∧ b ≠ g) w (xs.take i ++ xs.drop (i + 1)) (cs.take (i * 2) ++ cs.drop ((i + 1) * 2)) := (hr.take i).append (hr.drop (i + 1))
  have hl : (xs.take i ++ xs.drop (i + 1)).length = xs.length - 1 := by simp only [List.length_append, List.length_take, List.length_drop]; omega
  refine (deleteEnt_at hg hcs ht hi hnc hc hr.one).mono fun e w' ⟨L, h1, h2, h3, h4, h5⟩ => ?_
  refine ⟨_, c, h1, ⟨_, ⟨by rw [hl]; exact R.len.trans (by rw [hl]), .inr ⟨g, c, _, by rw [hl], hbg, h4, by rw [hl]; omega, hc, by rw [List.size_toArray]; exact h2, ?_⟩⟩, ?_⟩, h5, rfl⟩
  · show List.take ((xs.take i ++ xs.drop (i + 1)).length * 2) _ = _
    rw [hl]
    exact h3
  · exact (R.move' h5 fun b hb hl h => hb.2 (Option.some.inj h)).mono fun b hb _ => ⟨hb.1, fun h => hb.2 (Option.some.inj h)⟩

end Go.Proofs.YtppjpfgjophgkaaDoor
