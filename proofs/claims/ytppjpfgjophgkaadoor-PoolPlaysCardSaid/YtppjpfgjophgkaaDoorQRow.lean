/- Rows of pages: one at a place, one laid at a place; the law's find and without. -/
import Derived.Test.YtppjpfgjophgkaaDoorRef
import Derived.Test.YtppjpfgjophgkaaDoorD
import Derived.Laws.OwnMore
import Derived.Deep.Cut
import Derived.BigQuiet
import Derived.Deep.QuietTactic
namespace Go.Proofs.YtppjpfgjophgkaaDoor
open Go.RowKit

theorem page_row_at {S : Nat → Prop} {w : World} {A : Option Addr} {n c : Nat} {xs : List Page} (h : Sl kPage S w (.slice A n c) xs) {k : Nat} {x : Page} (hi : xs[k]? = some x) :
    ∃ b o A0 n0 c0, A = some ⟨b, o, none⟩ ∧ w.cell? ⟨b, o + k * 5, none⟩ = some (.int .i64 x.id) ∧ w.cell? ⟨b, o + k * 5 + 1, none⟩ = some (.int .i64 x.lsn) ∧ w.cell? ⟨b, o + k * 5 + 2, none⟩ = some (.int .i64 x.level) ∧ w.cell? ⟨b, o + k * 5 + 3, none⟩ = some (.int .i64 x.next) ∧ w.cell? ⟨b, o + k * 5 + 4, none⟩ = some (.slice A0 n0 c0) ∧ Sl kEnt S w (.slice A0 n0 c0) x.ents := by
  obtain ⟨A', c', he, _, _, hx⟩ := h
  injection he with ha _ _
  subst ha
  have hk : k < xs.length := (List.getElem?_eq_some_iff.1 hi).1
  obtain ⟨b, o, rfl, _, hr⟩ := hx (by omega)
  obtain ⟨cs, hc, hcell⟩ := hr k x hi
  obtain ⟨v, rfl, h0⟩ := kPage_open hc
  obtain ⟨A0, n0, c0, rfl, _⟩ := h0.open_
  exact ⟨b, o, A0, n0, c0, rfl, hcell 0 _ rfl, hcell 1 _ rfl, hcell 2 _ rfl, hcell 3 _ rfl, hcell 4 _ rfl, h0⟩
theorem Reps.set {α : Type} {d : Kd α} {S : Nat → Prop} {w : World} : ∀ {xs : List α} {cs : List Value}, Reps d S w xs cs → ∀ {k : Nat} {y : α} {cy : List Value}, k < xs.length → d.K S w y cy → Reps d S w (xs.set k y) (cs.take (k * d.sz) ++ cy ++ cs.drop ((k + 1) * d.sz))
  | [], _, _, k, _, _, hk, _ => absurd hk (Nat.not_lt_zero _)
  | x :: xs, cs, h, k, y, cy, hk, hy => by
    obtain ⟨c1, c2, rfl, h1, h2⟩ := h
    have hl := d.len h1
    cases k with
    | zero =>
      rw [Nat.zero_mul, List.take_zero, Nat.zero_add, Nat.one_mul, ← hl, List.drop_left]
      exact ⟨cy, c2, rfl, hy, h2⟩
    | succ k =>
      have h3 := Reps.set h2 (k := k) (by simpa using hk) hy
      refine ⟨c1, _, ?_, h1, h3⟩
      rw [Nat.add_mul k 1, Nat.one_mul, Nat.add_comm (k * d.sz), ← hl, List.take_append, List.take_of_length_le (by omega), Nat.add_mul (k + 1) 1, Nat.one_mul, Nat.add_comm ((k + 1) * c1.length), List.drop_append, List.drop_of_length_le (by omega)]
      simp only [List.append_assoc]
      rw [Nat.add_sub_cancel_left, Nat.add_sub_cancel_left, Nat.add_mul, Nat.one_mul, Nat.add_comm (k * c1.length), List.nil_append]
theorem set_five (p q : List Value) (b0 b1 b2 b3 b4 a0 a1 a2 a3 a4 : Value) :
    (((((p ++ b0 :: b1 :: b2 :: b3 :: b4 :: q).set p.length a0).set (p.length + 1) a1).set (p.length + 2) a2).set (p.length + 3) a3).set (p.length + 4) a4 = p ++ [a0, a1, a2, a3, a4] ++ q := by
  rw [List.set_append_right _ _ (Nat.le_refl _), Nat.sub_self, List.set_append_right _ _ (by omega), List.set_append_right _ _ (by omega), List.set_append_right _ _ (by omega), List.set_append_right _ _ (by omega)]
  simp [show p.length + 1 - p.length = 1 by omega, show p.length + 2 - p.length = 2 by omega, show p.length + 3 - p.length = 3 by omega, show p.length + 4 - p.length = 4 by omega]
theorem five_of {cs : List Value} {k : Nat} (h : (k + 1) * 5 ≤ cs.length) : ∃ b0 b1 b2 b3 b4, cs = cs.take (k * 5) ++ b0 :: b1 :: b2 :: b3 :: b4 :: cs.drop ((k + 1) * 5) := by
  have h1 : (cs.drop (k * 5)).take 5 ++ (cs.drop (k * 5)).drop 5 = cs.drop (k * 5) := List.take_append_drop _ _
  have h2 : ((cs.drop (k * 5)).take 5).length = 5 := by rw [List.length_take, List.length_drop]; omega
  match hm : (cs.drop (k * 5)).take 5, h2 with
  | [b0, b1, b2, b3, b4], _ =>
    refine ⟨b0, b1, b2, b3, b4, ?_⟩
    rw [hm, List.drop_drop] at h1
    conv => lhs; rw [← List.take_append_drop (k * 5) cs, ← h1]
    rw [show k * 5 + 5 = (k + 1) * 5 by omega]
    rfl
/-- A page laid at a place of a row of one's own. -/
theorem own_page_put {e : TypeId} {base : Nat} {S : Nat → Prop} {w : World} {v : Value} {xs : List Page} (h : Own kPage e base S w v xs) {k : Nat} (hk : k < xs.length) (y : Page) {u : Value} (hy : Sl kEnt (fun b => S b ∧ some b ≠ v.ownBlock) w u y.ents) :
    ∃ g c, v = .slice (some ⟨g, 0, none⟩) xs.length c ∧ base ≤ g ∧ g < w.heap.size ∧ (∀ j, w.frozen? ⟨g, j, none⟩ = false) ∧ Own kPage e base S (((((w.setCell ⟨g, k * 5, none⟩ (.int .i64 y.id)).setCell ⟨g, k * 5 + 1, none⟩ (.int .i64 y.lsn)).setCell ⟨g, k * 5 + 2, none⟩ (.int .i64 y.level)).setCell ⟨g, k * 5 + 3, none⟩ (.int .i64 y.next)).setCell ⟨g, k * 5 + 4, none⟩ u) v (xs.set k y) := by
  obtain ⟨cs, ho, hr⟩ := h
  have hlen : cs.length = xs.length * 5 := ho.1
  rcases ho.2 with ⟨_, h0⟩ | ⟨g, cap, cur, rfl, hg, hcell, hn, hm, hsz, htk⟩
  · omega
  obtain ⟨hc1, hz⟩ := blk_cells hcell
  refine ⟨g, cap, rfl, hg, blk_lt hcell, hz, ?_⟩
  obtain ⟨b0, b1, b2, b3, b4, hcs⟩ := five_of (cs := cs) (k := k) (by omega)
  have hp : (cs.take (k * 5)).length = k * 5 := by rw [List.length_take]; omega
  have hst := ((((ho.stored (k * 5) (.int .i64 y.id)).1.stored (k * 5 + 1) (.int .i64 y.lsn)).1.stored (k * 5 + 2) (.int .i64 y.level)).1.stored (k * 5 + 3) (.int .i64 y.next)).1.stored (k * 5 + 4) u
  have hset : ((((cs.set (k * 5) (.int .i64 y.id)).set (k * 5 + 1) (.int .i64 y.lsn)).set (k * 5 + 2) (.int .i64 y.level)).set (k * 5 + 3) (.int .i64 y.next)).set (k * 5 + 4) u = cs.take (k * 5) ++ [.int .i64 y.id, .int .i64 y.lsn, .int .i64 y.level, .int .i64 y.next, u] ++ cs.drop ((k + 1) * 5) := by
    have h5 := set_five (cs.take (k * 5)) (cs.drop ((k + 1) * 5)) b0 b1 b2 b3 b4 (.int .i64 y.id) (.int .i64 y.lsn) (.int .i64 y.level) (.int .i64 y.next) u
    rw [hp, ← hcs] at h5
    exact h5
  have hf : Fr (fun b => b ≠ g) w (((((w.setCell ⟨g, k * 5, none⟩ (.int .i64 y.id)).setCell ⟨g, k * 5 + 1, none⟩ (.int .i64 y.lsn)).setCell ⟨g, k * 5 + 2, none⟩ (.int .i64 y.level)).setCell ⟨g, k * 5 + 3, none⟩ (.int .i64 y.next)).setCell ⟨g, k * 5 + 4, none⟩ u) := by
    repeat (first | (with_reducible exact Fr.refl _ _) | with_reducible refine Fr.setCell ?_ (fun m hm => by exact hm) _)
  have hne : ∀ b, some b ≠ (Value.slice (some ⟨g, 0, none⟩) xs.length cap).ownBlock → b ≠ g := fun b hb he => hb (by rw [he]; rfl)
  refine ⟨cs.take (k * 5) ++ [.int .i64 y.id, .int .i64 y.lsn, .int .i64 y.level, .int .i64 y.next, u] ++ cs.drop ((k + 1) * 5), ?_, ?_⟩
  · rw [List.length_set, ← hset]
    exact hst.1
  · exact (hr.set hk (kPage_mk hy)).move' hf fun b hb _ => hne b hb.2

/-- A page at a place of a row of one's own. -/
theorem own_page_at {e : TypeId} {base : Nat} {S : Nat → Prop} {w : World} {A : Option Addr} {n c : Nat} {xs : List Page} (h : Own kPage e base S w (.slice A n c) xs) {k : Nat} {x : Page} (hi : xs[k]? = some x) :
    ∃ g A0 n0 c0, A = some ⟨g, 0, none⟩ ∧ base ≤ g ∧ g < w.heap.size ∧ w.cell? ⟨g, k * 5, none⟩ = some (.int .i64 x.id) ∧ w.cell? ⟨g, k * 5 + 1, none⟩ = some (.int .i64 x.lsn) ∧ w.cell? ⟨g, k * 5 + 2, none⟩ = some (.int .i64 x.level) ∧ w.cell? ⟨g, k * 5 + 3, none⟩ = some (.int .i64 x.next) ∧ w.cell? ⟨g, k * 5 + 4, none⟩ = some (.slice A0 n0 c0) ∧ (∀ j, w.frozen? ⟨g, j, none⟩ = false) ∧ Sl kEnt (fun b => S b ∨ some b = (Value.slice A n c).ownBlock) w (.slice A0 n0 c0) x.ents := by
  obtain ⟨b, o, A0, n0, c0, hA, z0, z1, z2, z3, z4, hs⟩ := page_row_at h.sl hi
  obtain ⟨cs, ho, _⟩ := h
  have hk : k < xs.length := (List.getElem?_eq_some_iff.1 hi).1
  rcases ho.2 with ⟨_, h0⟩ | ⟨g, cap, cur, hv, hg, hcell, _⟩
  · omega
  · obtain ⟨hA2, _, _⟩ := Value.slice.inj hv
    rw [hA2] at hA
    obtain ⟨rfl, rfl, _⟩ := Addr.mk.inj (Option.some.inj hA)
    rw [Nat.zero_add] at z0 z1 z2 z3 z4
    exact ⟨_, A0, n0, c0, hA2, hg, blk_lt hcell, z0, z1, z2, z3, z4, (blk_cells hcell).2, hs⟩

/-- find: a page's place, or -1. -/
theorem find_call {v : Value} {xs : List Page} {S : Nat → Prop} {w : World} {id : Int} (h : Sl kPage S w v xs) (hn : xs.length ≤ 1000000) :
    Calls Tryd.prog 13 #[v, .int .i64 id] w fun e w' => ∃ r : Int, e = .returned (.int .i64 r) ∧ Hid ((r = -1 ∧ ∀ p ∈ xs, p.id ≠ id) ∨ ∃ (i : Nat) (p : Page), r = (i : Int) ∧ xs[i]? = some p ∧ p.id = id) ∧ w' = w := by
  obtain ⟨A, n, c, rfl, en, _⟩ := h.open_
  have En := Lib.hid en
  have HS := Lib.hid h
  clear en h
  rw [En.out] at hn
  go_enter Tryd.func13, Tryd.ntmps13
  go_wp2_with fail
  go_loopw [5] (fun i wr => ∃ j : Nat, j ≤ n ∧ i = .int .i64 j ∧ Hid (∀ i p, i < j → xs[i]? = some p → p.id ≠ id) ∧ wr = w) (fun i _ => n - (intOf i).toNat)
  case atStart => exact ⟨0, Nat.zero_le _, rfl, (fun i p hi => absurd hi (Nat.not_lt_zero _) : ∀ i p, i < 0 → xs[i]? = some p → p.id ≠ id), rfl⟩
  case round =>
    obtain ⟨j, hj, rfl, HB, hwr⟩ := hrel
    obtain rfl := hwr.symm
    clear hwr
    by_cases hlt : j < n
    · obtain ⟨x, hx, xm⟩ := get_of (l := xs) (k := j) (by rw [En.out]; exact hlt)
      obtain ⟨b, o, A0, n0, c0, rfl, x0, x1, x2, x3, x4, _⟩ := page_row_at HS.out hx
      have Hx := Lib.hid hx
      have b0 : (0 : Int) ≤ (j : Int) := by omega
      have b1 : (j : Int) < (n : Int) := by omega
      clear hx xm
      by_cases he : x.id = id
      · have hd : (x.id == id) = true := by rw [beq_iff_eq]; exact he
        have He := Lib.hid he
        clear he
        go_wp2_with fail
        go_ret
        exact ⟨(j : Int), rfl, Lib.hid (.inr ⟨j, x, rfl, Hx.out, He.out⟩), rfl⟩
      · have hd : (x.id == id) = false := by rw [beq_eq_false_iff_ne]; exact he
        have He := Lib.hid he
        clear he
        go_wp2_with fail
        go_roundw
        case rel =>
          refine ⟨j + 1, by omega, by go_num, Lib.hid fun i p hi hp => ?_, trivial⟩
          by_cases hij : i = j
          · subst hij
            obtain rfl := Option.some.inj (Hx.out.symm.trans hp)
            exact He.out
          · exact HB.out i p (by omega) hp
        case measure => simp [intOf]; omega
    · obtain rfl : j = n := by omega
      go_wp2_with fail
      go_ret
      exact ⟨-1, rfl, Lib.hid (.inl ⟨rfl, fun p hp => by
        obtain ⟨i, hi⟩ := List.mem_iff_getElem?.1 hp
        exact HB.out i p (by rw [← En.out]; exact (List.getElem?_eq_some_iff.1 hi).1) hi⟩), rfl⟩
theorem infoI : (Tryd.prog.info? 3).map (fun i => (i.zero, i.size, i.bytes)) = some (some (.int .i64 0), kInt.sz, 8) := by kernel_rfl
/-- without: numbers without one. -/
theorem without_call {v : Value} {xs : List Int} {S : Nat → Prop} {w : World} {y : Int} (h : Sl kInt S w v xs) (hn : xs.length ≤ 1000000) :
    Calls Tryd.prog 15 #[v, .int .i64 y] w fun e w' => ∃ (zs : List Int) (A' : Option Addr) (c' : Nat), e = .returned (.slice A' zs.length c') ∧ Hid (zs = xs.filter fun k => decide (k ≠ y)) ∧ Own kInt 3 w.heap.size All w' (.slice A' zs.length c') zs ∧ Fr All w w' := by
  obtain ⟨A, n, c, rfl, en, _⟩ := h.open_
  have En := Lib.hid en
  have HS := Lib.hid h
  clear en h
  rw [En.out] at hn
  go_enter Tryd.func15, Tryd.ntmps15
  go_wp2_with fail
  go_loopw [5, 6] (fun u i wr => ∃ (j : Nat) (zs : List Int), j ≤ n ∧ i = .int .i64 j ∧ Hid (zs = (xs.take j).filter fun k => decide (k ≠ y)) ∧ Own kInt 3 w.heap.size All wr u zs ∧ Fr All w wr) (fun _ i _ => n - (intOf i).toNat)
  case atStart => exact ⟨0, [], Nat.zero_le _, rfl, (rfl : [] = (xs.take 0).filter fun k => decide (k ≠ y)), Own.nil_ _ _ _ _ _, Fr.refl _ _⟩
  case round =>
    obtain ⟨j, zs, hj, rfl, HZ, HO, HF⟩ := hrel
    obtain ⟨UA, uc, rfl⟩ := HO.length
    have hzl : zs.length ≤ 1000000 := by
      rw [HZ.out]
      have := List.length_filter_le (fun k => decide (k ≠ y)) (xs.take j)
      rw [List.length_take] at this
      omega
    by_cases hlt : j < n
    · obtain ⟨x, hx, xm⟩ := get_of (l := xs) (k := j) (by rw [En.out]; exact hlt)
      obtain ⟨b, o, rfl, x0⟩ := (HS.out.all HF).at1 hx
      have Hx := Lib.hid hx
      have b0 : (0 : Int) ≤ (j : Int) := by omega
      have b1 : (j : Int) < (n : Int) := by omega
      clear hx xm
      by_cases he : x = y
      · have hd : (x != y) = false := by rw [bne_eq_false_iff_eq]; exact he
        have He := Lib.hid he
        clear he
        go_wp2_with fail
        go_roundw
        case rel =>
          refine ⟨j + 1, zs, by omega, by go_num, Lib.hid ?_, HO, HF⟩
          rw [take_snoc Hx.out, List.filter_append, HZ.out, List.filter_cons_of_neg (by rw [decide_eq_true_eq]; exact fun hh => hh He.out), List.filter_nil, List.append_nil]
        case measure => simp [intOf]; omega
      · have hd : (x != y) = true := by rw [bne_iff_ne]; exact he
        have He := Lib.hid he
        have HO2 : Own kInt 3 w.heap.size All (wr.alloc (.cells #[.int .i64 x] 3)) (.slice UA zs.length uc) zs := HO.all ((Fr.refl All wr).alloc _)
        have HY : Src kInt Nowhere (wr.alloc (.cells #[.int .i64 x] 3)) (.slice (some ⟨wr.heap.size, 0, none⟩) 1 1) [x] := Src.box (d := kInt) (x := x) (cs := [.int .i64 x]) rfl _ 1
        have F2 := HF.alloc (.cells #[.int .i64 x] 3)
        clear he
        go_wp2_with (at_builtin; refine wpList_app rfl rfl Tryd.underlying27 infoI rfl (by decide) HO2 HY rfl rfl (fun _ h _ => h.elim) (by simp only [List.length_cons, List.length_nil]; omega) (by have := F2.size; omega) ?_; intro v' w' h3 h4 h5)
        go_roundw
        case rel =>
          refine ⟨j + 1, zs ++ [x], by omega, by go_num, Lib.hid ?_, h3, F2.row h4.grown (fun k hk => (own_lt HO2 k hk).1)⟩
          rw [take_snoc Hx.out, List.filter_append, HZ.out, List.filter_cons_of_pos (by rw [decide_eq_true_eq]; exact He.out), List.filter_nil]
        case measure => simp [intOf]; omega
    · obtain rfl : j = n := by omega
      go_wp2_with fail
      go_ret
      exact ⟨zs, UA, uc, rfl, Lib.hid (by rw [HZ.out, ← En.out, List.take_length]), HO, HF⟩
end Go.Proofs.YtppjpfgjophgkaaDoor
