/- Behind a Put of a bare page; counting; pageOf. -/
import Derived.Test.YteikddopeplomaaDoorRoP
namespace Go.Proofs.YteikddopeplomaaDoor
open Go.RowKit Go.Maps

theorem RowSt.nh {s : PSt} {hv ws : List Int} (h : RowSt s hv ws) {S : Nat → Prop} {w : World} {b n : Nat} (hg : GMap elPage Tryd.prog 3 S w b s.have_ n) :
    n = ((List.range 8).filter fun i : Nat => decide (0 < hv.getD i 0)).length ∧ n ≤ 8 := by
  have hc := hg.count 8 (by omega) (fun k hk => by
    rw [h.have_] at hk
    split at hk
    · rename_i e
      exact ⟨e.1, e.2.1⟩
    · cases hk)
  have he : (List.range 8).filter (fun i : Nat => (s.have_ (i : Int)).isSome) = (List.range 8).filter (fun i : Nat => decide (0 < hv.getD i 0)) := by
    refine List.filter_congr fun i hi => ?_
    have hi8 : i < 8 := List.mem_range.1 hi
    rw [h.have_, Int.toNat_natCast]
    by_cases h0 : 0 < hv.getD i 0
    · rw [if_pos ⟨by omega, by omega, h0⟩, decide_eq_true h0]
      rfl
    · rw [if_neg (fun hh => h0 hh.2.2), decide_eq_false h0]
      rfl
  rw [he] at hc
  refine ⟨hc, ?_⟩
  rw [hc]
  have := List.length_filter_le (fun i : Nat => decide (0 < hv.getD i 0)) (List.range 8)
  simpa using this

/-- A Put of a bare page. -/
theorem RowSt.put {s : PSt} {hv ws : List Int} (h : RowSt s hv ws) {i : Nat} {x n : Int} (hx : hv[i]? = some x) (h1 : 1 ≤ n) (h2 : n ≤ 30) :
    RowSt (s.puts ⟨(i : Int), n, 0, -1, []⟩) (hv.set i (max x n)) (ws.filter fun k => k != (i : Int)) := by
  have hi : i < 8 := by have := (List.getElem?_eq_some_iff.1 hx).1; rw [h.len] at this; exact this
  have hxb := h.bnd i x hx
  have hget := h.get hx
  have hwants : (s.puts ⟨(i : Int), n, 0, -1, []⟩).wants = gdel s.wants (i : Int) := by
    unfold PSt.puts
    split
    · split <;> rfl
    · rfl
  have hval : ∀ k : Int, (s.puts ⟨(i : Int), n, 0, -1, []⟩).have_ k = if k = (i : Int) then some ⟨(i : Int), max x n, 0, -1, []⟩ else s.have_ k := by
    intro k
    unfold PSt.puts
    dsimp only
    by_cases h0 : 0 < x
    · rw [if_pos h0] at hget
      rw [hget]
      dsimp only
      by_cases hle : x ≤ n
      · rw [if_pos hle, show max x n = n by omega]
        rfl
      · rw [if_neg hle, show max x n = x by omega]
        show s.have_ k = _
        split
        · rename_i e
          rw [e, hget]
        · rfl
    · rw [if_neg h0] at hget
      rw [hget, show max x n = n by omega]
      rfl
  refine ⟨by rw [List.length_set, h.len], ?_, ?_, h.rise.filter _, ?_, ?_⟩
  · intro k y hy
    rw [List.getElem?_set] at hy
    split at hy
    · split at hy
      · obtain rfl := Option.some.inj hy
        omega
      · cases hy
    · exact h.bnd k y hy
  · intro k
    rw [hval]
    by_cases hk : k = (i : Int)
    · subst hk
      have hg : (hv.set i (max x n)).getD ((i : Int)).toNat 0 = max x n := by
        rw [Int.toNat_natCast, List.getD_eq_getElem?_getD, List.getElem?_set_self (by rw [h.len]; exact hi)]
        rfl
      rw [if_pos rfl, hg, if_pos ⟨by omega, by omega, by omega⟩]
    · rw [if_neg hk, h.have_]
      by_cases hk0 : 0 ≤ k
      · have hg : (hv.set i (max x n)).getD k.toNat 0 = hv.getD k.toNat 0 := by
          rw [List.getD_eq_getElem?_getD, List.getD_eq_getElem?_getD, List.getElem?_set_ne (by omega)]
        rw [hg]
      · rw [if_neg (fun hh => hk0 hh.1), if_neg (fun hh => hk0 hh.1)]
  · intro k
    rw [List.mem_filter, h.mem, hwants]
    unfold gdel
    by_cases hk : k = (i : Int)
    · rw [if_pos hk]
      simp [hk]
    · rw [if_neg hk]
      simp [hk]
  · intro k hk
    exact h.small k (List.mem_filter.1 hk).1

/-- How many of the first j are above nothing and not above L; and above L. -/
def cntG (hv : List Int) (L : Int) (j : Nat) : Nat := ((List.range j).filter fun i => decide (0 < hv.getD i 0) && decide (hv.getD i 0 ≤ L)).length
def cntL (hv : List Int) (L : Int) (j : Nat) : Nat := ((List.range j).filter fun i => decide (0 < hv.getD i 0) && !decide (hv.getD i 0 ≤ L)).length
theorem cntG_le (hv : List Int) (L : Int) (j : Nat) : cntG hv L j ≤ j := by
  have := List.length_filter_le (fun i : Nat => decide (0 < hv.getD i 0) && decide (hv.getD i 0 ≤ L)) (List.range j)
  simpa [cntG] using this
theorem cntL_le (hv : List Int) (L : Int) (j : Nat) : cntL hv L j ≤ j := by
  have := List.length_filter_le (fun i : Nat => decide (0 < hv.getD i 0) && !decide (hv.getD i 0 ≤ L)) (List.range j)
  simpa [cntL] using this
section
variable {hv : List Int} {L x : Int} {j : Nat}
theorem getD_some (hx : hv[j]? = some x) : hv.getD j 0 = x := by rw [List.getD_eq_getElem?_getD, hx]; rfl
theorem cnt_none (hx : hv[j]? = some x) (h : decide (0 < x) = false) : cntG hv L (j + 1) = cntG hv L j ∧ cntL hv L (j + 1) = cntL hv L j := by
  have hg := getD_some hx
  unfold cntG cntL
  simp only [List.range_succ, List.filter_append, List.length_append, List.filter_cons, List.filter_nil, hg, h, Bool.false_and]
  simp
theorem cnt_gone (hx : hv[j]? = some x) (h : decide (0 < x) = true) (h2 : decide (x ≤ L) = true) : cntG hv L (j + 1) = cntG hv L j + 1 ∧ cntL hv L (j + 1) = cntL hv L j := by
  have hg := getD_some hx
  unfold cntG cntL
  simp only [List.range_succ, List.filter_append, List.length_append, List.filter_cons, List.filter_nil, hg, h, h2, Bool.true_and]
  simp
theorem cnt_left (hx : hv[j]? = some x) (h : decide (0 < x) = true) (h2 : decide (x ≤ L) = false) : cntG hv L (j + 1) = cntG hv L j ∧ cntL hv L (j + 1) = cntL hv L j + 1 := by
  have hg := getD_some hx
  unfold cntG cntL
  simp only [List.range_succ, List.filter_append, List.length_append, List.filter_cons, List.filter_nil, hg, h, h2, Bool.true_and]
  simp
end
theorem filter_split {α : Type} (p q : α → Bool) : ∀ l : List α, (l.filter p).length = (l.filter fun x => p x && q x).length + (l.filter fun x => p x && !q x).length
  | [] => rfl
  | x :: l => by
    have ih := filter_split p q l
    cases h1 : p x <;> cases h2 : q x <;> simp [List.filter_cons, h1, h2, ih] <;> omega
/-- What a Drop tells. -/
theorem RowSt.drop {s : PSt} {hv ws : List Int} (h : RowSt s hv ws) {S : Nat → Prop} {w w' : World} {b n n' : Nat} {L : Int} (hg : GMap elPage Tryd.prog 3 S w b s.have_ n) (hg' : GMap elPage Tryd.prog 3 S w' b (s.dropped L n').have_ n') :
    n' = cntL hv L 8 ∧ n = cntG hv L 8 + cntL hv L 8 := by
  have hn := (h.nh hg).1
  have hc := hg'.count 8 (by omega) (fun k hk => by
    have hk2 : ((s.have_ k).filter fun p => decide (L < p.lsn)).isSome = true := hk
    rw [h.have_] at hk2
    split at hk2
    · rename_i e
      exact ⟨e.1, e.2.1⟩
    · cases hk2)
  have he : (List.range 8).filter (fun i : Nat => ((s.dropped L n').have_ (i : Int)).isSome) = (List.range 8).filter (fun i : Nat => decide (0 < hv.getD i 0) && !decide (hv.getD i 0 ≤ L)) := by
    refine List.filter_congr fun i hi => ?_
    have hi8 : i < 8 := List.mem_range.1 hi
    show ((s.have_ (i : Int)).filter fun p => decide (L < p.lsn)).isSome = _
    rw [h.have_, Int.toNat_natCast]
    by_cases h0 : 0 < hv.getD i 0
    · rw [if_pos ⟨by omega, by omega, h0⟩, decide_eq_true h0, Bool.true_and]
      by_cases hl : hv.getD i 0 ≤ L
      · rw [Option.filter_some, if_neg (by simpa using hl), decide_eq_true hl]
        rfl
      · rw [Option.filter_some, if_pos (by simpa using hl), decide_eq_false hl]
        rfl
    · rw [if_neg (fun hh => h0 hh.2.2), decide_eq_false h0]
      rfl
  rw [he] at hc
  refine ⟨hc, ?_⟩
  rw [hn, filter_split _ (fun i : Nat => decide (hv.getD i 0 ≤ L))]
  rfl

/-- The filter of the walk. -/
theorem filt_step {ws : List Int} {i x : Int} {k : Nat} (hx : ws[k]? = some x) : (ws.take (k + 1)).filter (fun y => y != i) = (ws.take k).filter (fun y => y != i) ++ (if x != i then [x] else []) := by
  rw [take_snoc hx, List.filter_append]
  congr 1
  cases h : x != i <;> simp [List.filter_cons, h]

set_option maxRecDepth 100000 in
set_option maxHeartbeats 1000000 in
theorem page_of_no {w : World} {P : Value} {i : Int} (hP : P.oneCell' = true) :
    Calls Tryd.prog 33 #[P, .int .i64 i, .bool false] w fun e w' => e = .returned (.tuple #[.agg #[.int .i64 0, .int .i64 0, .int .i64 0, .int .i64 0, .slice none 0 0], .bool true]) ∧ Fr All w w' := by
  have FF := (Fr.refl All w).alloc (.cells #[.int .i64 0, .int .i64 0, .int .i64 0, .int .i64 0, .slice none 0 0] 24)
  obtain ⟨e0, e1, e2, e3, e4, ez⟩ := blk5 (heap_alloc_new w (.cells #[.int .i64 0, .int .i64 0, .int .i64 0, .int .i64 0, .slice none 0 0] 24))
  go_enter Tryd.func33, Tryd.ntmps33
  go_wp2_with fail
  refine bodyPost_ret (v := .tuple #[.agg #[.int .i64 0, .int .i64 0, .int .i64 0, .int .i64 0, .slice none 0 0], .bool true]) ?_ rfl ⟨rfl, FF⟩
  simp [results, Tryd.results33, go_sem, e0, e1, e2, e3, e4]

set_option maxRecDepth 100000 in
set_option maxHeartbeats 1000000 in
theorem page_of_some {w : World} {B l t : Nat} {s : PSt} {p : Page} (h : Pk w B l t s) {i : Int} (hi : In64 i) (hm : s.have_ i = some p) (he : p.ents = []) :
    Calls Tryd.prog 33 #[.pointer (some ⟨B, 0, none⟩), .int .i64 i, .bool true] w fun e w' => ∃ A c, e = .returned (.tuple #[.agg #[.int .i64 p.id, .int .i64 p.lsn, .int .i64 p.level, .int .i64 p.next, .slice A 0 c], .bool true]) ∧ Pk w' B l t s ∧ Fr All w w' := by
  have F0 := (Fr.refl All w).alloc (.cells #[.int .i64 0, .int .i64 0, .int .i64 0, .int .i64 0, .slice none 0 0] 24)
  have B0 := Lib.hid (heap_alloc_new w (.cells #[.int .i64 0, .int .i64 0, .int .i64 0, .int .i64 0, .slice none 0 0] 24))
  have H := Lib.hid (h.all F0)
  have hlt := h.lt
  obtain ⟨pid, lsn, level, next, ents⟩ := p
  dsimp only at he ⊢
  subst he
  have HM := Lib.hid hm
  have HI := Lib.hid hi
  have HP := Lib.hid h
  clear h hm hi
  go_enter Tryd.func33, Tryd.ntmps33
  go_wp2_with fail
  refine (pool_get_some H.out HI.out HM.out ⟨by simp, by simp⟩).mono ?_
  rintro e w3 ⟨A, c, rfl, h3, f3⟩
  dsimp only [List.length_nil]
  have B3 := (f3.block w.heap.size (by simp) trivial).trans B0.out
  obtain ⟨e0, e1, e2, e3, e4, ez⟩ := blk5 B3
  have F3 : Fr All w w3 := F0.trans f3
  have hsz := f3.size
  simp only [World.size_alloc] at hsz
  have H3 := Lib.hid h3
  clear h3 f3 B3 F0
  go_wp2_with fail
  have F5 : Fr (fun x => x ≠ w.heap.size) w3 (((((w3.setCell ⟨w.heap.size, 0, none⟩ (.int .i64 pid)).setCell ⟨w.heap.size, 1, none⟩ (.int .i64 lsn)).setCell ⟨w.heap.size, 2, none⟩ (.int .i64 level)).setCell ⟨w.heap.size, 3, none⟩ (.int .i64 next)).setCell ⟨w.heap.size, 4, none⟩ (.slice A 0 c)) := by
    repeat (first | (with_reducible exact Fr.refl _ _) | with_reducible refine Fr.setCell ?_ (fun m hm => by exact hm) _)
  have FF : Fr All w (((((w3.setCell ⟨w.heap.size, 0, none⟩ (.int .i64 pid)).setCell ⟨w.heap.size, 1, none⟩ (.int .i64 lsn)).setCell ⟨w.heap.size, 2, none⟩ (.int .i64 level)).setCell ⟨w.heap.size, 3, none⟩ (.int .i64 next)).setCell ⟨w.heap.size, 4, none⟩ (.slice A 0 c)) := by
    repeat (first | (with_reducible exact F3) | with_reducible refine Fr.setNew ?_ (by dsimp only; omega) _)
  refine bodyPost_ret (v := .tuple #[.agg #[.int .i64 pid, .int .i64 lsn, .int .i64 level, .int .i64 next, .slice A 0 c], .bool true]) ?_ rfl ⟨A, c, rfl, ?_, FF⟩
  · simp [results, Tryd.results33, go_sem, e0, e1, e2, e3, e4]
  · exact HP.out.all FF
end Go.Proofs.YteikddopeplomaaDoor
