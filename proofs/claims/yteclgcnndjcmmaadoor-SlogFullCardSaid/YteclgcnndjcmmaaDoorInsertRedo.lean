/- slices.Insert of one element into a row of one's own: in place where there is room, else a new row. -/
import Derived.Test.YteclgcnndjcmmaaDoorSplice
import Derived.Test.YteclgcnndjcmmaaDoorD
import Derived.Test.YteclgcnndjcmmaaDoorProg
import Derived.KernelRfl
import Derived.Outline
import Derived.Deep.RegionHeld3
namespace Go.Proofs.YteclgcnndjcmmaaDoor
open Go.RowKit

theorem infoRedo : (Tryd.prog.info? 36).map (fun i => (i.zero, i.size, i.bytes)) = some (some (.agg #[.int .i64 0, .int .i64 0, .int .i64 0, .int .i64 0, .int .i64 0, .int .i64 0, .int .i64 0, .slice none 0 0, .slice none 0 0, .bool false]), kRedo.sz, 112) := by kernel_rfl

set_option maxRecDepth 100000 in
set_option maxHeartbeats 1000000 in
theorem insertRedo_end {v : Value} {xs : List _} {x : _} {base : Nat} {S T : Nat → Prop} {w : World} {vb : Nat} {news : List Value} (HO : Own kRedo 36 base S w v xs)
    (hx : kRedo.K T w x news) (hT : ∀ b, T b → b < w.heap.size → S b ∧ some b ≠ v.ownBlock) (hvb : w.heap[vb]? = some (.cells news.toArray 36 (0, 0))) (hbase : base ≤ w.heap.size) (hlen : xs.length ≤ 1000000) :
    Calls Tryd.prog 53 #[v, .int .i64 xs.length, .slice (some ⟨vb, 0, none⟩) 1 1] w fun e w' => ∃ A c, e = .returned (.slice A (xs.length + 1) c) ∧ Own kRedo 36 base S w' (.slice A (xs.length + 1) c) (xs ++ [x]) ∧ Fr (But v.ownBlock) w w' ∧ ((Value.slice A (xs.length + 1) c).ownBlock = v.ownBlock ∨ (Value.slice A (xs.length + 1) c).ownBlock = some w.heap.size) := by
  obtain ⟨A, c, rfl⟩ := HO.length
  have HY : Src kRedo T w (.slice (some ⟨vb, 0, none⟩) 1 1) [x] := ⟨_, 1, news, rfl, Reps.single hx, fun _ => ⟨vb, 0, rfl, fun j u hu => by have h1 := World.news_of_block hvb j u (by simpa using hu); rwa [addr_lit] at h1⟩⟩
  obtain ⟨n, hn⟩ : ∃ n, xs.length = n := ⟨_, rfl⟩
  rw [hn] at HO hlen hT ⊢
  have Hn := Lib.hid hn
  have hlc : n ≤ c := by
    obtain ⟨A', n', c', he, h1, h2, _⟩ := HO.sl.open_
    injection he with _ h3 h4
    omega
  have hb : (xs.length + [x].length) * 112 ≤ 140737488355328 := by simp only [List.length_cons, List.length_nil, hn]; omega
  clear hn
  go_enter Tryd.func53, Tryd.ntmps53
  go_wp2_with (at_builtin; refine wpList_app rfl rfl Tryd.underlying54 infoRedo rfl (by decide) HO HY rfl rfl hT hb hbase ?_; intro v' w' h3 h4 h5)
  all_goals
    go_ret
    obtain ⟨A', c', rfl⟩ := h3.length
    have hl : (xs ++ [x]).length = n + 1 := by rw [List.length_append, Hn.out]; rfl
    rw [hl] at h3 h5 ⊢
    first | exact ⟨A', c', rfl, h3, h4, h5⟩ | (have hcn : c = n := (by assumption); subst hcn; exact ⟨A', c', rfl, h3, h4, h5⟩)

theorem own_open {α : Type} {d : Kd α} {e : TypeId} {base : Nat} {S : Nat → Prop} {w : World} {A : Option Addr} {n c : Nat} {xs : List α} (h : Own d e base S w (.slice A n c) xs) (h0 : 0 < n) :
    ∃ g cur cs, A = some ⟨g, 0, none⟩ ∧ base ≤ g ∧ w.heap[g]? = some (.cells cur e (0, 0)) ∧ n ≤ c ∧ c ≤ maxLen ∧ cur.size = c * d.sz ∧ cur.toList.take (n * d.sz) = cs ∧ xs.length = n ∧ cs.length = n * d.sz ∧ Reps d (fun b => S b ∧ b ≠ g) w xs cs := by
  obtain ⟨cs, ho, hr⟩ := h
  have hl := hr.len
  rcases ho.2 with ⟨he, _⟩ | ⟨g, cap, cur, he, hb, hg, h1, h2, h3, h4⟩
  · injection he with _ h1 _
    omega
  · injection he with ha hn hc
    subst ha hn hc
    exact ⟨g, cur, cs, rfl, hb, hg, h1, h2, h3, h4, rfl, ho.1, hr.mono fun b hb _ => ⟨hb.1, fun hh => hb.2 (by rw [hh]; rfl)⟩⟩

set_option maxRecDepth 100000 in
set_option maxHeartbeats 1000000 in
theorem insertRedo_room {g n c : Nat} {cur : Array Value} {cs : List Value} {w : World} {vb i : Nat} {news : List Value} (hg : w.heap[g]? = some (.cells cur 36 (0, 0))) (hcs : cur.size = c * 10) (ht : cur.toList.take (n * 10) = cs) (hi : i < n) (hroom : n + 1 ≤ c) (hc : c ≤ maxLen)
    (h1c : ∀ u ∈ cs, u.oneCell' = true) (h1n : ∀ u ∈ news, u.oneCell' = true) (hnl : news.length = 10) (hvb : w.heap[vb]? = some (.cells news.toArray 36 (0, 0))) (hne : vb ≠ g) :
    Calls Tryd.prog 53 #[.slice (some ⟨g, 0, none⟩) n c, .int .i64 i, .slice (some ⟨vb, 0, none⟩) 1 1] w fun e w' => e = .returned (.slice (some ⟨g, 0, none⟩) (n + 1) c) ∧ w' = (w.drew.setRow g (splice (splice cur.toList (i * 10 + 10) (cs.drop (i * 10))) (i * 10) news).toArray) := by
  have H1 := Lib.hid hcs
  have H2 := Lib.hid ht
  have H3 := Lib.hid h1c
  have H4 := Lib.hid h1n
  have H5 := Lib.hid hnl
  have H6 := Lib.hid hg
  have H7 := Lib.hid hvb
  have hc63 : c ≤ 9223372036854775807 := hc
  clear hcs ht h1c h1n hnl hg hvb hc
  have hz2 : ¬ ((i : Int) = (n : Int)) := by omega
  have hov : ∀ lb cb, (callFunc 79 #[.slice (some ⟨vb, 0, none⟩) 1 1, .slice (some ⟨g, (i + 1) * 10, none⟩) lb cb]).run Tryd.prog w = .ok (.value (.bool false)) w := fun lb cb => by
    have hz : ∀ w, (sizeOf 36).run Tryd.prog w = .ok 10 w := fun w => by kernel_rfl
    rw [run_callFunc_extern Tryd.func79 (by kernel_rfl) (by kernel_rfl) (by kernel_rfl) (e := Extern.SlicesOverlaps.overlaps #[54, 54] #[4]) (by kernel_rfl),
      Lib.run_overlaps_apart w 54 4 36 Tryd.underlying54 10 hz ⟨vb, 0, none⟩ ⟨g, (i + 1) * 10, none⟩ 1 1 lb cb hne 36 36 news.length cur.size (by simp [World.shape?, H7.out]) (by simp [World.shape?, H6.out]) (by rw [H1.out]; omega) (by simp [World.frozen?, H7.out]) (by simp [World.frozen?, H7.out])]
    rfl
  have hN : cs.length = n * 10 := by rw [← H2.out, List.length_take, Array.length_toList, H1.out]; omega
  have hd : (cs.drop (i * 10)).length = (n - i) * 10 := by rw [List.length_drop, hN]; omega
  have hsz : (Tryd.prog.info? 36).map (·.size) = some 10 := by kernel_rfl
  have r1 : ∀ ty, (Builtin.copy_ #[54, 54] ty #[.slice (some ⟨g, (i + 1) * 10, none⟩) (n - i) (c - (i + 1)), .slice (some ⟨g, i * 10, none⟩) (n + 1 - i) (c - i)]).run Tryd.prog w.drew = .ok (goInt ((n - i : Nat) : Int)) (w.drew.setRow g (splice cur.toList ((i + 1) * 10) (cs.drop (i * 10))).toArray) := fun ty => by
    have hm : Nat.min (n + 1 - i) (n - i) = n - i := by simp only [Nat.min_def]; split <;> omega
    have h := run_copy_sz (P := Tryd.prog) w.drew 54 54 ty 36 10 g ((i + 1) * 10) (n - i) (c - (i + 1)) g (i * 10) (n + 1 - i) (c - i) cur 36 (cs.drop (i * 10)) Tryd.underlying54 hsz H6.out (by rw [hm, hd])
      (fun j v hj => by
        rw [List.getElem?_drop] at hj
        have hlt := (List.getElem?_eq_some_iff.1 hj).1
        rw [← H2.out, List.getElem?_take] at hj
        split at hj
        · rw [World.cell?_drew, cell_of_row w g _ cur _ _ H6.out]; simpa using hj
        · cases hj) (by rw [hd, H1.out]; omega) (fun v hv => H3.out v (List.mem_of_mem_drop hv))
    rwa [hm] at h
  obtain ⟨L1, hL1⟩ : ∃ L1, L1 = splice cur.toList ((i + 1) * 10) (cs.drop (i * 10)) := ⟨_, rfl⟩
  have hl1 : L1.length = c * 10 := by rw [hL1, length_splice _ _ _ (by rw [hd, Array.length_toList, H1.out]; omega), Array.length_toList, H1.out]
  obtain ⟨W1, hW1⟩ : ∃ W1, W1 = w.drew.setRow g L1.toArray := ⟨_, rfl⟩
  rw [← hL1, ← hW1] at r1
  have r2 : ∀ ty, (Builtin.copy_ #[54, 54] ty #[.slice (some ⟨g, i * 10, none⟩) (n + 1 - i) (c - i), .slice (some ⟨vb, 0, none⟩) 1 1]).run Tryd.prog W1 = .ok (goInt 1) (w.drew.setRow g (splice L1 (i * 10) news).toArray) := fun ty => by
    have hm : Nat.min 1 (n + 1 - i) = 1 := by simp only [Nat.min_def]; split <;> omega
    have hg1 : W1.heap[g]? = some (.cells L1.toArray 36 (0, 0)) := by rw [hW1]; exact setRow_heap w.drew g cur _ _ _ H6.out
    have h := run_copy_sz (P := Tryd.prog) W1 54 54 ty 36 10 g (i * 10) (n + 1 - i) (c - i) vb 0 1 1 L1.toArray 36 news Tryd.underlying54 hsz hg1 (by rw [hm, H5.out])
      (fun j v hj => by
        have h2 : W1.heap[vb]? = some (.cells news.toArray 36 (0, 0)) := by rw [hW1]; exact (setRow_other w.drew g vb _ hne).trans H7.out
        rw [cell_of_row W1 vb _ _ _ _ h2]; simpa using hj) (by rw [H5.out, List.size_toArray, hl1]; omega) (fun v hv => H4.out v hv)
    rw [hm] at h
    rw [h, hW1, setRow_setRow]
    rfl
  have R1 := Lib.hid r1
  have R2 := Lib.hid r2
  have E1 := Lib.hid hL1
  clear r1 r2 hL1 hl1 hW1 hN hd hsz
  have hw1 : IntKind.i64.wrap ((i : Int) + 1) = (i : Int) + 1 := by rw [IntKind.wrap_i64]; omega
  have hb1 : (0 : Int) ≤ (i : Int) + 1 := by omega
  have hin : i ≤ n := by omega
  have htn : ((i : Int) + 1).toNat = i + 1 := by omega
  have hb2 : ¬ (c = i + 1) := by omega
  have hb3 : (i : Int) ≤ (n : Int) + 1 := by omega
  have hb4 : ¬ (c = i) := by omega
  go_enter Tryd.func53, Tryd.ntmps53
  go_wp2_with (simp only [hov])
  go_region_held3 (fun _ => True) (trivial) (first
      | (
          with_reducible refine step_of ?_ ?_
          · rfl
          refine wp_copyrun R1.out rfl rfl rfl ?_))
  have r2 := R2.out
  go_wp2_with fail
  go_ret
  exact ⟨rfl, by rw [E1.out, Nat.add_mul, Nat.one_mul]⟩

set_option maxRecDepth 100000 in
set_option maxHeartbeats 1000000 in
theorem insertRedo_grow {g n c : Nat} {cur : Array Value} {cs : List Value} {w : World} {vb i : Nat} {news : List Value} (hg : w.heap[g]? = some (.cells cur 36 (0, 0))) (hcs : cur.size = c * 10) (ht : cur.toList.take (n * 10) = cs) (hi : i < n) (hnc : n ≤ c) (hroom : c < n + 1) (hsm : n ≤ 1000000)
    (h1c : ∀ u ∈ cs, u.oneCell' = true) (h1n : ∀ u ∈ news, u.oneCell' = true) (hnl : news.length = 10) (hvb : w.heap[vb]? = some (.cells news.toArray 36 (0, 0))) :
    Calls Tryd.prog 53 #[.slice (some ⟨g, 0, none⟩) n c, .int .i64 i, .slice (some ⟨vb, 0, none⟩) 1 1] w fun e w' => ∃ (G : Nat) (L : List Value), e = .returned (.slice (some ⟨w.heap.size, 0, none⟩) (n + 1) G) ∧ n + 1 ≤ G ∧ G ≤ maxLen ∧ L.length = G * 10 ∧ L.take (n * 10 + 10) = cs.take (i * 10) ++ (news ++ cs.drop (i * 10)) ∧
      w'.heap[w.heap.size]? = some (.cells L.toArray 36 (0, 0)) ∧ Fr All w w' := by
  obtain ⟨i0, hi0, hz0, hzs, hzb⟩ := info_parts infoRedo
  have hN : cs.length = n * 10 := by rw [← ht, List.length_take, Array.length_toList, hcs]; omega
  have hsz : (Tryd.prog.info? 36).map (·.size) = some 10 := by kernel_rfl
  have hk : i + (n + 1 - i) = n + 1 := by omega
  have gl := blk_lt hg
  have vl := blk_lt hvb
  obtain ⟨G, hG⟩ : ∃ G, G = grownCap w (n + 1) c 36 := ⟨_, rfl⟩
  have hG1 : n + 1 ≤ G := by rw [hG]; exact grownCap_ge w _ _ _
  have hG2 : G ≤ maxLen := by rw [hG]; exact grownCap_le_maxLen w (n + 1) c _ (by unfold maxLen; omega)
  obtain ⟨ROW, hROW⟩ : ∃ ROW : Array Value, ROW = (cs.take (i * 10)).toArray ++ Builtin.zeroCells (Value.cells (.agg #[.int .i64 0, .int .i64 0, .int .i64 0, .int .i64 0, .int .i64 0, .int .i64 0, .int .i64 0, .slice none 0 0, .slice none 0 0, .bool false])) (n + 1 - i) ++ Builtin.zeroCells (Value.cells (.agg #[.int .i64 0, .int .i64 0, .int .i64 0, .int .i64 0, .int .i64 0, .int .i64 0, .int .i64 0, .slice none 0 0, .slice none 0 0, .bool false])) (G - (n + 1)) := ⟨_, rfl⟩
  have hRs : ROW.size = G * 10 := by
    rw [hROW]
    simp only [Array.size_append, List.size_toArray, List.length_take, hN, size_zeroCells]
    simp only [Value.cells, List.size_toArray, List.length_cons, List.length_nil]
    omega
  have r0 : ∀ ty, (Builtin.append_ #[54, 3] ty #[.slice (some ⟨g, 0, none⟩) i c, .int .i64 ((n : Int) + 1 - (i : Int))]).run Tryd.prog w = .ok (.slice (some ⟨w.heap.size, 0, none⟩) (n + 1) G) ((w.alloc (.cells ROW 36)).drew) := fun ty => by
    have hold : (Builtin.firstCells i0.size i (.slice (some ⟨g, 0, none⟩) i c)).run Tryd.prog w.drew = .ok (cs.take (i * 10)).toArray w.drew := by
      rw [hzs]
      exact run_firstCells_some w.drew 10 i ⟨g, 0, none⟩ i c (cs.take (i * 10)) (by rw [List.length_take, hN]; omega) (fun j v hj => by
        rw [addr_lit, Nat.zero_add, List.getElem?_take] at *
        split at hj
        · rw [← ht, List.getElem?_take] at hj
          split at hj
          · rw [World.cell?_drew, cell_of_row w g _ cur _ _ hg]; simpa using hj
          · cases hj
        · cases hj)
    have h := Lib.run_append_grow_zeros (P := Tryd.prog) w 54 3 ty 36 i0 _ .i64 .i64 Tryd.underlying54 Tryd.underlying3 hi0 hz0 (some ⟨g, 0, none⟩) i c (cs.take (i * 10)) hold (n + 1 - i) (by omega) (by rw [hzs]; decide) (by omega) (by omega) (by rw [hzb]; omega) (by rw [hzb, hk]; exact growslice_fits hroom (by omega))
    rw [hk] at h
    rw [show (n : Int) + 1 - (i : Int) = ((n + 1 - i : Nat) : Int) by omega, h, hROW, hG]
    rfl
  obtain ⟨W1, hW1⟩ : ∃ W1, W1 = (w.alloc (.cells ROW 36)).drew := ⟨_, rfl⟩
  have g1 : W1.heap[w.heap.size]? = some (.cells ROW 36 (0, 0)) := by rw [hW1]; exact heap_alloc_new w _
  have f1 : Fr All w W1 := by rw [hW1]; exact ((Fr.refl All w).alloc _).drew
  rw [← hW1] at r0
  have hm1 : Nat.min 1 (n + 1 - i) = 1 := by simp only [Nat.min_def]; split <;> omega
  have hd : (cs.drop (i * 10)).length = (n - i) * 10 := by rw [List.length_drop, hN]; omega
  obtain ⟨L1, hL1⟩ : ∃ L1, L1 = splice ROW.toList (i * 10) news := ⟨_, rfl⟩
  have hl1 : L1.length = G * 10 := by rw [hL1, length_splice _ _ _ (by rw [hnl, Array.length_toList, hRs]; omega), Array.length_toList, hRs]
  obtain ⟨W2, hW2⟩ : ∃ W2, W2 = W1.setRow w.heap.size L1.toArray := ⟨_, rfl⟩
  have g2 : W2.heap[w.heap.size]? = some (.cells L1.toArray 36 (0, 0)) := by rw [hW2]; exact setRow_heap W1 _ _ _ _ _ g1
  have f2 : Fr All w W2 := ⟨by rw [hW2]; exact f1.os, by rw [hW2]; exact f1.tape, by rw [hW2]; exact f1.output, by rw [hW2, size_setRow]; exact f1.size, fun b hb hs => by rw [hW2, setRow_other _ _ _ _ (by omega)]; exact f1.block b hb hs⟩
  have r1 : ∀ ty, (Builtin.copy_ #[54, 54] ty #[.slice (some ⟨w.heap.size, i * 10, none⟩) (n + 1 - i) (G - i), .slice (some ⟨vb, 0, none⟩) 1 1]).run Tryd.prog W1 = .ok (goInt 1) W2 := fun ty => by
    have h := run_copy_sz (P := Tryd.prog) W1 54 54 ty 36 10 w.heap.size (i * 10) (n + 1 - i) (G - i) vb 0 1 1 ROW 36 news Tryd.underlying54 hsz g1 (by rw [hm1, hnl])
      (fun j v hj => by
        rw [cell_of_row W1 vb _ _ _ _ ((f1.block vb vl trivial).trans hvb)]; simpa using hj) (by rw [hnl, hRs]; omega) h1n
    rw [hm1] at h
    rw [h, hW2, hL1]
    rfl
  obtain ⟨L2, hL2⟩ : ∃ L2, L2 = splice L1 ((i + 1) * 10) (cs.drop (i * 10)) := ⟨_, rfl⟩
  have hl2 : L2.length = G * 10 := by rw [hL2, length_splice _ _ _ (by rw [hd, hl1]; omega), hl1]
  obtain ⟨W3, hW3⟩ : ∃ W3, W3 = W2.drew.setRow w.heap.size L2.toArray := ⟨_, rfl⟩
  have g3 : W3.heap[w.heap.size]? = some (.cells L2.toArray 36 (0, 0)) := by rw [hW3]; exact setRow_heap W2.drew _ _ _ _ _ g2
  have f3 : Fr All w W3 := ⟨by rw [hW3]; exact f2.os, by rw [hW3]; exact f2.tape, by rw [hW3]; exact f2.output, by rw [hW3, size_setRow]; exact f2.size, fun b hb hs => by rw [hW3, setRow_other _ _ _ _ (by omega)]; exact f2.block b hb hs⟩
  have r2 : ∀ ty, (Builtin.copy_ #[54, 54] ty #[.slice (some ⟨w.heap.size, (i + 1) * 10, none⟩) (n - i) (G - (i + 1)), .slice (some ⟨g, i * 10, none⟩) (n - i) (c - i)]).run Tryd.prog W2.drew = .ok (goInt ((n - i : Nat) : Int)) W3 := fun ty => by
    have hm : Nat.min (n - i) (n - i) = n - i := by simp only [Nat.min_def]; split <;> omega
    have h := run_copy_sz (P := Tryd.prog) W2.drew 54 54 ty 36 10 w.heap.size ((i + 1) * 10) (n - i) (G - (i + 1)) g (i * 10) (n - i) (c - i) L1.toArray 36 (cs.drop (i * 10)) Tryd.underlying54 hsz g2 (by rw [hm, hd])
      (fun j v hj => by
        rw [List.getElem?_drop] at hj
        rw [← ht, List.getElem?_take] at hj
        split at hj
        · rw [World.cell?_drew, cell_of_row W2 g _ cur _ _ ((f2.block g gl trivial).trans hg)]; simpa using hj
        · cases hj) (by rw [hd, List.size_toArray, hl1]; omega) (fun v hv => h1c v (List.mem_of_mem_drop hv))
    rw [hm] at h
    rw [h, hW3, hL2]
  have hfin : L2.take (n * 10 + 10) = cs.take (i * 10) ++ (news ++ cs.drop (i * 10)) := by
    rw [hL2, hL1, Nat.add_mul, Nat.one_mul]
    exact insert_grow (by rw [hN]; omega) hN hnl (by rw [Array.length_toList, hRs]; omega) fun j hj => by
      rw [hROW, Array.toList_append, Array.toList_append, List.append_assoc, List.getElem?_append_left (by simp only [List.length_take, hN]; omega)]
      simp only [List.getElem?_take]
      rw [if_pos hj]
  have F := Lib.hid (And.intro hfin (And.intro hl2 (And.intro g3 f3)))
  have GG := Lib.hid (And.intro hG1 hG2)
  have R2 := Lib.hid r2
  clear r2 hfin hl2 g3 f3 hL2 hW3 hL1 hl1 hW2 g2 f2 hW1 g1 f1 hROW hRs hG hd hN hsz hk hg hcs ht h1c h1n hnl hvb hi0 hz0 hzs hzb hm1 hG2
  have hz2 : ¬ ((i : Int) = (n : Int)) := by omega
  have hz3 : (c : Int) < (n : Int) + 1 := by omega
  have hw1 : IntKind.i64.wrap ((i : Int) + 1) = (i : Int) + 1 := by rw [IntKind.wrap_i64]; omega
  have hb1 : (0 : Int) ≤ (i : Int) + 1 := by omega
  have hin : i ≤ n := by omega
  have htn : ((i : Int) + 1).toNat = i + 1 := by omega
  have hb3 : (i : Int) ≤ (n : Int) := by omega
  have hG63 : G ≤ 9223372036854775807 := GG.out.2
  have hb2 : ¬ (G = i + 1) := by omega
  have hb4 : ¬ (c = i) := by omega
  have hb5 : ¬ (G = i) := by omega
  go_enter Tryd.func53, Tryd.ntmps53
  go_wp2_with (at_builtin; refine wpList_apprun r0 rfl rfl rfl rfl ?_)
  go_region_held3 (fun _ => True) (trivial) (first
      | (
          with_reducible refine step_of ?_ ?_
          · rfl
          refine wp_copyrun R2.out rfl rfl rfl ?_))
  go_wp2_with fail
  go_ret
  obtain ⟨h1, h2, h3, h4⟩ := F.out
  exact ⟨G, L2, rfl, GG.out.1, GG.out.2, h2, h1, h3, h4⟩

/-- slices.Insert of one element into a row of one's own. -/
theorem insertRedo {v : Value} {xs : List _} {x : _} {base : Nat} {S T : Nat → Prop} {w : World} {vb i : Nat} {news : List Value} (HO : Own kRedo 36 base S w v xs) (hi : i ≤ xs.length)
    (hx : kRedo.K T w x news) (hT : ∀ b, T b → b < w.heap.size → S b ∧ some b ≠ v.ownBlock) (hvb : w.heap[vb]? = some (.cells news.toArray 36 (0, 0))) (hvo : some vb ≠ v.ownBlock) (hbase : base ≤ w.heap.size) (hlen : xs.length ≤ 1000000) :
    Calls Tryd.prog 53 #[v, .int .i64 i, .slice (some ⟨vb, 0, none⟩) 1 1] w fun e w' => ∃ A c, e = .returned (.slice A (xs.length + 1) c) ∧ Own kRedo 36 base S w' (.slice A (xs.length + 1) c) (xs.take i ++ (x :: xs.drop i)) ∧ Fr (But v.ownBlock) w w' ∧ ((Value.slice A (xs.length + 1) c).ownBlock = v.ownBlock ∨ (Value.slice A (xs.length + 1) c).ownBlock = some w.heap.size) := by
  by_cases he : i = xs.length
  · subst he
    have h := insertRedo_end HO hx hT hvb hbase hlen
    rwa [show xs ++ [x] = xs.take xs.length ++ (x :: xs.drop xs.length) by rw [List.take_length, List.drop_length]] at h
  · obtain ⟨A, c, rfl⟩ := HO.length
    obtain ⟨g, cur, cs, rfl, hbg, hg, hnc, hc, hcs, ht, _, hcl, hr⟩ := own_open HO (by omega)
    have hnl := kRedo.len hx
    have hgv : (Value.slice (some ⟨g, 0, none⟩) xs.length c).ownBlock = some g := rfl
    rw [hgv] at hT hvo ⊢
    have R : Reps kRedo (fun b => S b ∧ b ≠ g) w (xs.take i ++ (x :: xs.drop i)) (cs.take (i * 10) ++ (news ++ cs.drop (i * 10))) :=
      (hr.take i).append ⟨news, _, rfl, kRedo.mono (fun b hb hl => ⟨(hT b hb hl).1, fun h => (hT b hb hl).2 (by rw [h])⟩) hx, hr.drop i⟩
    have hl : (xs.take i ++ (x :: xs.drop i)).length = xs.length + 1 := by simp only [List.length_append, List.length_take, List.length_cons, List.length_drop]; omega
    by_cases hroom : xs.length + 1 ≤ c
    · refine (insertRedo_room hg hcs ht (by omega) hroom hc hr.one (kRedo.one hx) hnl hvb (fun h => hvo (by rw [h]))).mono fun e w' ⟨h1, h2⟩ => ?_
      have hN : cs.length = xs.length * 10 := hcl
      have hf : Fr (But (some g)) w w' := by
        rw [h2]
        exact ⟨rfl, rfl, rfl, by rw [size_setRow]; exact Nat.le_refl _, fun b hb hs => setRow_other w.drew g b _ fun h => hs (by rw [h])⟩
      refine ⟨_, c, h1, ⟨cs.take (i * 10) ++ (news ++ cs.drop (i * 10)), ⟨by rw [hl]; exact R.len.trans (by rw [hl]), .inr ⟨g, c, _, by rw [hl], hbg, by rw [h2]; exact setRow_heap w.drew g cur _ _ _ hg, by rw [hl]; exact hroom, hc, ?_, ?_⟩⟩, ?_⟩, hf, .inl rfl⟩
      · show (splice (splice cur.toList (i * 10 + 10) (cs.drop (i * 10))) (i * 10) news).toArray.size = c * 10
        have h0 : cur.toList.length = c * 10 := (Array.length_toList).trans hcs
        have h3 : (cs.drop (i * 10)).length = xs.length * 10 - i * 10 := by rw [List.length_drop, hN]
        have h4 : news.length = 10 := hnl
        have h5 : (splice cur.toList (i * 10 + 10) (cs.drop (i * 10))).length = cur.toList.length := length_splice _ _ _ (by rw [h3, h0]; omega)
        rw [List.size_toArray, length_splice _ _ _ (by rw [h4, h5, h0]; omega), h5, h0]
      · show List.take ((xs.take i ++ (x :: xs.drop i)).length * 10) _ = _
        have h0 : cur.toList.length = c * 10 := (Array.length_toList).trans hcs
        have hL0 : xs.length * 10 + 10 ≤ cur.toList.length := by rw [h0]; omega
        rw [hl, Nat.add_mul, Nat.one_mul]
        exact insert_room (by rw [hN]; omega) hN hnl hL0 fun j hj => by
          rw [← ht, List.getElem?_take, if_pos]
          show j < xs.length * 10
          omega
      · exact (R.move' hf fun b hb hl h => hb.2 (Option.some.inj h)).mono fun b hb _ => ⟨hb.1, fun h => hb.2 (Option.some.inj h)⟩
    · refine (insertRedo_grow hg hcs ht (by omega) hnc (by omega) hlen hr.one (kRedo.one hx) hnl hvb).mono fun e w' ⟨G, L, h1, h2, h3, h4, h5, h6, h7⟩ => ?_
      have gl := blk_lt hg
      refine ⟨_, G, h1, ⟨cs.take (i * 10) ++ (news ++ cs.drop (i * 10)), ⟨by rw [hl]; exact R.len.trans (by rw [hl]), .inr ⟨w.heap.size, G, _, by rw [hl], hbase, h6, by rw [hl]; exact h2, h3, by rw [List.size_toArray]; exact h4, ?_⟩⟩, ?_⟩, h7.mono fun _ _ => trivial, .inr rfl⟩
      · show List.take ((xs.take i ++ (x :: xs.drop i)).length * 10) _ = _
        rw [hl, Nat.add_mul, Nat.one_mul]
        exact h5
      · refine ((R.mono (T := fun b => (S b ∧ b ≠ g) ∧ b ≠ w.heap.size) fun b hb hl => ⟨hb, by omega⟩).move' h7 fun _ _ _ => trivial).mono fun b hb _ => ⟨hb.1.1, fun h => hb.2 (Option.some.inj h)⟩

end Go.Proofs.YteclgcnndjcmmaaDoor
