/- vers.Ids: the pages that have a record. -/
import Derived.Test.YtoaamcpiljoojaaGreatDoorHAll2
import Derived.Test.YtoaamcpiljoojaaGreatDoorIRow
import Derived.WalkMore
import Derived.Deep.LoopGhost
namespace Go.Proofs.YtoaamcpiljoojaaGreatDoor
open Go.RowKit Go.Shelf

/-- The pages of the records up to a number, as they come. -/
def pagesL (l : List Redo) (x : Int) : List Int := (l.filter fun r => decide (r.lsn ≤ x)).map Redo.page
theorem pagesL_len (l : List Redo) (x : Int) : (pagesL l x).length ≤ l.length := by
  unfold pagesL
  rw [List.length_map]
  exact List.length_filter_le _ _
theorem pagesL_mem {l : List Redo} {x k : Int} : k ∈ pagesL l x ↔ ∃ r ∈ l, r.lsn ≤ x ∧ r.page = k := by
  unfold pagesL
  rw [List.mem_map]
  constructor
  · rintro ⟨r, hr, rfl⟩
    rw [List.mem_filter, decide_eq_true_eq] at hr
    exact ⟨r, hr.1, hr.2, rfl⟩
  · rintro ⟨r, h1, h2, rfl⟩
    exact ⟨r, by rw [List.mem_filter, decide_eq_true_eq]; exact ⟨h1, h2⟩, rfl⟩
theorem pages_done {L : List Redo} {x : Int} {pre : List RV} (hp : pre.map RV.r = L) (ha : ∀ z ∈ pre, z.r.lsn ≤ x) : (pre.map fun z => z.r.page) = pagesL L x := by
  unfold pagesL
  rw [← hp, List.filter_eq_self.2 (fun r hr => by
    obtain ⟨z, hz, rfl⟩ := List.mem_map.1 hr
    exact decide_eq_true (ha z hz)), List.map_map]
  rfl
theorem pages_stop {L : List Redo} (hR : Rise L) {x : Int} {q : List RV} {y : RV} {kk : Nat} (hp : (q ++ [y]).map RV.r = L.take kk) (ha : ∀ z ∈ q, z.r.lsn ≤ x) (hy : x < y.r.lsn) : (q.map fun z => z.r.page) = pagesL L x := by
  rw [List.map_append] at hp
  obtain ⟨D, hD⟩ : ∃ D, L.drop kk = D := ⟨_, rfl⟩
  have h1 : L = q.map RV.r ++ ([y].map RV.r ++ D) := by rw [← List.append_assoc, hp, ← hD, List.take_append_drop]
  unfold pagesL
  have h2 : Rise ([y].map RV.r ++ D) := hR.sublist (by rw [h1]; exact List.sublist_append_right _ _)
  have h3 : ([y].map RV.r ++ D).filter (fun r => decide (r.lsn ≤ x)) = [] := by
    rw [List.filter_eq_nil_iff]
    intro r hr
    rw [decide_eq_true_eq]
    rcases List.mem_cons.1 hr with rfl | hr
    · omega
    · have := (List.pairwise_cons.1 h2).1 r hr
      omega
  rw [h1, List.filter_append, h3, List.append_nil, List.filter_eq_self.2 (fun r hr => by
    obtain ⟨z, hz, rfl⟩ := List.mem_map.1 hr
    exact decide_eq_true (ha z hz)), List.map_map]
  rfl
/-- A variable's box and the row that its slice owns, behind an append. -/
theorem boxed_grew {W w1 : World} {n₀ B : Nat} {t e : TypeId} {size : Nat} {v v' : Value} {k m : Nat} {xs ys : List Value} {tmp : Obj}
    (hv : Boxed W B t v) (hte : t ≠ e) (hrow : W.ownsRow n₀ e size v k xs) (hown' : w1.ownsRow n₀ e size v' m ys) (hgrow : (W.alloc tmp).grownBy w1 v.ownBlock) :
    Boxed w1 B t v ∧ Boxed (w1.setCell ⟨B, 0, none⟩ v') B t v' ∧ (w1.setCell ⟨B, 0, none⟩ v').ownsRow n₀ e size v' m ys ∧ KeepsOthers W (w1.setCell ⟨B, 0, none⟩ v') ∧ Fr (fun b => b ≠ B ∧ some b ≠ v.ownBlock) W (w1.setCell ⟨B, 0, none⟩ v') ∧ (∀ b, v.ownBlock = some b → n₀ ≤ b) := by
  have hv1 : Boxed w1 B t v := (hv.alloc tmp).kept hgrow (hv.not_row hte hrow)
  refine ⟨hv1, hv1.set v', hown'.kept (grownBy_setCell' w1 B v') (.inr (hv1.not_row hte hown').symm), ?_, ?_, ?_⟩
  · refine ((KeepsOthers.alloc W tmp).trans (KeepsOthers.of_grownBy hgrow fun j o ej hj => ?_)).trans (KeepsOthers.setCell _ _ _)
    rcases (hrow.alloc tmp).2 with ⟨rfl, _⟩ | ⟨g, cap, cur, rfl, _, hgb, _⟩
    · simp [Value.ownBlock] at ej
    · obtain rfl : g = j := by simpa [Value.ownBlock] using ej
      rw [hgb] at hj; cases hj; rfl
  · exact ((((Fr.refl All W).alloc tmp).mono fun _ _ => trivial).trans ((Fr.of_grown hgrow).mono fun b hb => hb.2)).setCell (p := ⟨B, 0, none⟩) (fun b hb => hb.1) v'
  · exact fun b hb => (hrow.lt b hb).1
/-- Between two rounds. -/
structure InvI (w6 : World) (b5 : Nat) (x : Int) (p : List RV) (W : World) : Prop where
  fr : Fr (fun b => b ≠ b5) w6 W
  out : ∃ v, Boxed W b5 74 v ∧ W.ownsRow w6.heap.size 3 1 v p.length (p.map fun y => Value.int .i64 y.r.page)
  all : ∀ y ∈ p, y.r.lsn ≤ x
/-- Behind a round that left. -/
structure LeftI (w6 : World) (b5 : Nat) (x : Int) (c : Code) (p : List RV) (W : World) : Prop where
  how : c = .exit 0 ∧ ∃ q y, p = q ++ [y] ∧ x < y.r.lsn ∧ InvI w6 b5 x q W
theorem invI_own (w6 : World) (b5 : Nat) (x : Int) : OwnFrom w6.heap.size (InvI w6 b5 x) := fun p W W' row h hg hr => by
  obtain ⟨v, h1, h2⟩ := h.out
  refine ⟨h.fr.row hg fun r e => (hr r e).1, ⟨v, boxed_turn h1 hg fun r e => (hr r e).2, h2.kept hg ?_⟩, h.all⟩
  rcases h2.2 with ⟨rfl, _⟩ | ⟨g, cap, cur, rfl, _, hgb, _⟩
  · exact .inl rfl
  · refine .inr fun e' => ?_
    obtain ⟨_, o, ho, hc⟩ := hr g (by simpa [Value.ownBlock] using e'.symm)
    rw [hgb] at ho
    cases ho
    cases hc
theorem leftI_own (w6 : World) (b5 : Nat) (x : Int) (c : Code) : OwnFrom w6.heap.size (LeftI w6 b5 x c) := fun _ W W' row h hg hr => by
  obtain ⟨h1, q, y, h2, h3, h4⟩ := h.how
  exact ⟨h1, q, y, h2, h3, invI_own w6 b5 x q W W' row h4 hg hr⟩
theorem fr_past {T : Nat → Prop} {w0 w w' : World} (f0 : Fr All w0 w) (f : Fr T w w') (h : ∀ x, x < w0.heap.size → T x) : Fr All w0 w' :=
  ⟨f.os.trans f0.os, f.tape.trans f0.tape, f.output.trans f0.output, Nat.le_trans f0.size f.size, fun x hx _ => (f.block x (Nat.lt_of_lt_of_le hx f0.size) (h x hx)).trans (f0.block x hx trivial)⟩
theorem own_not {d base : Nat} {e : TypeId} {k : Nat} {xs : List Value} {w : World} {v : Value} {o : Obj} (h : w.ownsRow base e 1 v k xs) (hd : w.heap[d]? = some o) (hc : o.isCells = false) : some d ≠ v.ownBlock := by
  rcases h.2 with ⟨rfl, _⟩ | ⟨g, cap, cur, rfl, _, hgb, _⟩
  · simp [Value.ownBlock]
  · intro e'
    obtain rfl : d = g := by simpa [Value.ownBlock] using e'
    rw [hgb] at hd
    cases hd
    cases hc
theorem infoInt : (Tryz.prog.info? 3).map (fun i => (i.zero, i.size, i.bytes)) = some (some (.int .i64 0), 1, 8) := by kernel_rfl
theorem own_of_row {w : World} {base k : Nat} {v : Value} {l : List Int} (h : w.ownsRow base 3 1 v k (l.map (Value.int .i64))) (hk : k = l.length) : Own kInt 3 base Nowhere w v l := by
  subst hk
  exact ⟨_, h, irow_mk l⟩
attribute [local go_sem] Oper.semAt_some
set_option maxRecDepth 100000 in
set_option maxHeartbeats 4000000 in
theorem ids_call {S : Nat → Prop} {w : World} {B : Nat} {lv sv : Value} {s : HSt} (h : Hg S w B lv sv s) (x : Int) : Calls Tryz.prog 35 #[.pointer (some ⟨B, 0, none⟩), .int .i64 x] w fun e w' =>
    ∃ A m c, e = .returned (.slice A m c) ∧ Own kInt 3 w.heap.size All w' (.slice A m c) (onces (ascend (pagesL s.l x))) ∧ Fr All w w' := by
  refine (callsIn_wide (n := 8)).1 ?_
  refine callsIn_of_wp_marks Tryz.func35 rfl trivial ?_ rfl
  simp only [Tryz.ntmps35, List.size_toArray, List.length_cons, List.length_nil, Nat.reduceAdd, Nat.reduceSub, Array.replicate_succ, Array.replicate_zero, List.push_toArray, List.append_toArray, List.nil_append, List.cons_append]
  refine wpIn_wide.2 ?_
  have F0 := ((Fr.refl All w).alloc (.cells #[.int .i64 x] 2)).alloc (.cells #[.slice none 0 0] 74)
  have H0 := Lib.hid (h.all F0)
  have HF0 := Lib.hid F0
  have HOK := Lib.hid h.ok
  clear h F0
  go_wp2_with fail
  go_step3
  go_wp2_with fail
  go_step3
  go_wp2_with fail
  refine (all_call H0.out).mono ?_
  rintro e w6 ⟨Bs, A6, c6, rfl, hBs, hcell, hsl, f6⟩
  have x3 := Lib.hid ((Boxed.new w 2 (.int .i64 x)).alloc (.cells #[.slice none 0 0] 74))
  have x5 := Lib.hid (Boxed.new (w.alloc (.cells #[.int .i64 x] 2)) 74 (.slice none 0 0))
  have hz : ((w.alloc (.cells #[.int .i64 x] 2)).alloc (.cells #[.slice none 0 0] 74)).heap.size = w.heap.size + 2 := by simp
  have y3 : Hid (Boxed w6 w.heap.size 2 (.int .i64 x)) := Lib.hid ((f6.block _ (by rw [hz]; omega) trivial).trans x3.out)
  have y5 : Hid (Boxed w6 (w.heap.size + 1) 74 (.slice none 0 0)) := Lib.hid ((f6.block _ (by rw [hz]; omega) trivial).trans (by have := x5.out; rwa [World.size_alloc] at this))
  have HF6 := Lib.hid (HF0.out.trans f6)
  rw [hz] at hBs hsl
  have hw6 : w.heap.size + 2 ≤ w6.heap.size := by have := f6.size; omega
  clear x3 x5 f6 H0 HF0 hz
  go_wp2_with fail
  refine (wpIn_wide (n := 8)).1 ?_
  have hfew := HOK.out.few
  have hstops := all1_stops 7 (by omega) (fun b => w.heap.size + 2 ≤ b ∧ b < w6.heap.size) Bs A6 s.l.length c6 s.l w6 rfl (by omega) hBs hcell hsl (redosOk HOK.out).2
  refine wpIn_rangeFunc_ownH (F := Fence.wide) (n := 8) rfl (by omega) (gf := 107) (lb := #[.pointer (some ⟨Bs, 0, none⟩)]) (by rfl) trivial (enters_of Tryz.func107 (by kernel_rfl) rfl)
    hstops (fun h1 h2 => h1.trans h2)
    (fun W l o o' hl _ _ _ => ⟨rfl, rfl, rfl, by simp, fun b _ hb => (grownBy_putObj' W l o').block b (by assumption) (fun e => by cases e; omega)⟩)
    (Below.refl _ _) (fun _ => rfl)
    (InvI w6 (w.heap.size + 1) x) (LeftI w6 (w.heap.size + 1) x) (invI_own _ _ _) (leftI_own _ _ _)
    ⟨Fr.refl _ _, ⟨_, y5.out, World.ownsRow_nil _ _ _ _⟩, fun y hy => absurd hy (by simp)⟩
    (fun z a' W => ∃ Bx, w6.heap.size ≤ Bx ∧ W.heap[Bx]? = some z.cells ∧ a' = { tmps := #[.pointer (some ⟨B, 0, none⟩), .int .i64 x, undef, .pointer (some ⟨w.heap.size, 0, none⟩), .slice none 0 0, .pointer (some ⟨w.heap.size + 1, 0, none⟩), .pointer (some ⟨Bx, 0, none⟩), .pointer (some ⟨B, 0, none⟩), .func (.func 107) #[] #[.pointer (some ⟨Bs, 0, none⟩)], z.val, undef, undef, undef, undef, undef, undef, undef, undef, undef, undef, undef, undef, undef], defers := [] })
    (fun z a' _ X Y row hs hg hr => by
      obtain ⟨Bx, h1, h2, h3⟩ := hs
      refine ⟨Bx, h1, ?_, h3⟩
      refine (hg.block Bx (blk_lt h2) fun e => ?_).trans h2
      obtain ⟨_, o, ho, hc⟩ := hr Bx e.symm
      rw [h2] at ho
      cases ho
      cases hc)
    ?assign ?body ?done ?stop
  case assign =>
    rintro l pre ⟨xr, X0, m0, d0, X1, m1, d1⟩ W K hi hK
    simp only [RV.val, RV.cells] at hK ⊢
    gi_wp2
    have hfa := (Fr.refl All W).alloc (.cells #[.int .i64 xr.lsn, .int .i64 xr.back, .int .i64 xr.epoch, .int .i64 xr.group, .int .i64 xr.page, .int .i64 xr.kind, .int .i64 xr.slot, .slice X0 m0 d0, .slice X1 m1 d1, .bool xr.last] 33)
    obtain ⟨v, hv1, hv2⟩ := hi.out
    exact hK _ _ ((KeepsOthers.alloc _ _).from _) (hfa.mono fun _ _ => trivial) ⟨hi.fr.then_all hfa, ⟨v, hv1.alloc _, hv2.alloc _⟩, hi.all⟩ ⟨W.heap.size, hi.fr.size, heap_alloc_new _ _, rfl⟩
  case body =>
    rintro l pre ⟨xr, X0, m0, d0, X1, m1, d1⟩ a' W hl ⟨rr, hr⟩ hI ⟨Bx, hBx, hcx, rfl⟩ hlt
    simp only [RV.val, RV.cells] at hcx ⊢
    obtain ⟨p0, p1, p2, p3, p4, p5, p6, p7, p8, p9, pz⟩ := blk10 hcx
    obtain ⟨v, hv, hrow⟩ := hI.out
    have z3 : Boxed W w.heap.size 2 (.int .i64 x) := (hI.fr.block _ y3.out.lt (by omega)).trans y3.out
    have q3 := z3.cell
    have q5 := hv.cell
    have s5 := hv.frozen
    have HI := Lib.hid hI
    have HV := Lib.hid hv
    have HROW := Lib.hid hrow
    have hpl := hI.fr.size
    clear hcx hI z3 hv hrow
    by_cases hgt : xr.lsn > x
    · gi_wp2
      exact ⟨(KeepsOthers.refl _).from _, ⟨rfl, pre, _, rfl, hgt, HI.out⟩⟩
    · obtain ⟨i0, hi, hz0, hz1, hz2⟩ := info_parts infoInt
      have HE := Lib.hid hgt
      clear hgt
      gi_wp2_with (gi_at_builtin; refine wpListIn_append_own _ rfl _ _ 74 rfl w6.heap.size 3 i0 (.int .i64 0) 1 8 Tryz.underlying74 hi hz0 hz1 hz2 rfl (by decide) _ _ _ rfl (HROW.out.alloc _) ⟨W.heap.size, 0, none⟩ 1 1 [.int .i64 xr.page] rfl rfl (cell_one_new _ _ _) (by simp [Value.oneCell']) (by simp only [maxLen]; omega) (by omega) (by simp; omega) ?_; intro v' w1 hown' hgrow _; obtain ⟨g', cap', rfl⟩ := ownsRow_succ hown'; obtain ⟨hv1, hv2, hr2, hk2, hf2, hb2⟩ := boxed_grew HV.out (by decide) HROW.out hown' hgrow; have hc1 := hv1.cell; have hf1 := hv1.frozen)
      have hfr := HI.out.fr
      refine ⟨hk2.from _, hf2.mono (fun b hb => ⟨by omega, fun e => by have := hb2 b e.symm; omega⟩), ⟨⟨hf2.os.trans hfr.os, hf2.tape.trans hfr.tape, hf2.output.trans hfr.output, Nat.le_trans hfr.size hf2.size, fun b hb hne => (hf2.block b (Nat.lt_of_lt_of_le hb hfr.size) ⟨hne, fun e => by have := hb2 b e.symm; omega⟩).trans (hfr.block b hb hne)⟩, ⟨_, hv2, ?_⟩, fun y hy => ?_⟩⟩
      · rw [List.length_append, List.map_append]
        exact hr2
      · rcases List.mem_append.1 hy with hy | hy
        · exact HI.out.all y hy
        · rw [List.mem_singleton.1 hy]
          exact HE.out
  case done =>
    rintro D ys W hD hys hI hK
    have hpg := pages_done hys hI.all
    have hII := hI
    clear hI
    obtain ⟨v, hv, hrow⟩ := hII.out
    have hfr := hII.fr
    have ho : Own kInt 3 w6.heap.size Nowhere W v (pagesL s.l x) := own_of_row (by rw [← hpg, List.map_map]; exact hrow) (by rw [← hpg, List.length_map])
    have hn5 : some (w.heap.size + 1) ≠ v.ownBlock := hv.not_row (by decide) hrow
    have hnD : some D ≠ v.ownBlock := own_not hrow hK rfl
    have hlt := own_lt ho
    have hDW : D < W.heap.size := blk_lt hK
    obtain ⟨m, hm⟩ : ∃ m, (pagesL s.l x).length = m := ⟨_, rfl⟩
    have hm1 : m ≤ 1000000 := by have := pagesL_len s.l x; omega
    obtain ⟨A, c, rfl⟩ := ho.length
    rw [hm] at ho hv hn5 hnD hlt
    have FW := Lib.hid (fr_past HF6.out hfr fun b hb => by omega)
    have HO := Lib.hid ho
    have HV := Lib.hid hv
    have HD := Lib.hid hK
    have q5 := hv.cell
    clear hm hrow hpg hII ho hv hK hfr
    skip
    go_wp2_with fail
    refine (sort_ints HO.out hm1).mono ?_
    rintro e w7 ⟨rfl, o7, f7⟩
    have HO7 := Lib.hid o7
    have v7 : Boxed w7 (w.heap.size + 1) 74 (.slice A m c) := (f7.block _ HV.out.lt hn5).trans HV.out
    have HV7 := Lib.hid v7
    have HD7 := Lib.hid ((f7.block D hDW hnD).trans HD.out)
    have F7 := Lib.hid (fr_past FW.out f7 fun b hb e => by have := (hlt b e.symm).1; omega)
    have hsz7 := f7.size
    clear q5
    have q5 := v7.cell
    clear v7 o7 f7
    go_wp2_with fail
    refine (compact_ints HO7.out (ascend_le _) hm1).mono ?_
    rintro e w8 ⟨m8, rfl, o8, f8⟩
    have HO8 := Lib.hid o8
    have HD8 := Lib.hid ((f8.block D (by omega) hnD).trans HD7.out)
    have F8 := Lib.hid (fr_past F7.out f8 fun b hb e => by have := (hlt b e.symm).1; omega)
    clear o8 f8 q5
    go_wp2_with fail
    refine ⟨by simp, .inl ⟨_, _, rfl, run_takeDeferred HD8.out, ?_⟩⟩
    refine ⟨.slice A m8 c, ?_, A, m8, c, rfl, ?_, ?_⟩
    · simp [results, Tryz.results35, go_sem]
    · refine ((HO8.out.move (Fr.of_grown (grownBy_putObj' w8 D (.deferred none))) (fun _ hb _ => hb.elim) fun j hj e => hnD ?_).lower (by omega)).any
      rw [← e]
      cases A <;> exact hj.symm
    · exact F8.out.row (grownBy_putObj' w8 D (.deferred none)) (fun r e => by cases e; omega)
  case stop =>
    rintro D c' pre W hD ⟨kk, hkk, hpre⟩ hLe hK
    obtain ⟨rfl, q, y, rfl, hy, hII⟩ := hLe.how
    have hpg := pages_stop HOK.out.rise hpre hII.all hy
    clear hLe hpre
    obtain ⟨v, hv, hrow⟩ := hII.out
    have hfr := hII.fr
    have ho : Own kInt 3 w6.heap.size Nowhere W v (pagesL s.l x) := own_of_row (by rw [← hpg, List.map_map]; exact hrow) (by rw [← hpg, List.length_map])
    have hn5 : some (w.heap.size + 1) ≠ v.ownBlock := hv.not_row (by decide) hrow
    have hnD : some D ≠ v.ownBlock := own_not hrow hK rfl
    have hlt := own_lt ho
    have hDW : D < W.heap.size := blk_lt hK
    obtain ⟨m, hm⟩ : ∃ m, (pagesL s.l x).length = m := ⟨_, rfl⟩
    have hm1 : m ≤ 1000000 := by have := pagesL_len s.l x; omega
    obtain ⟨A, c, rfl⟩ := ho.length
    rw [hm] at ho hv hn5 hnD hlt
    have FW := Lib.hid (fr_past HF6.out hfr fun b hb => by omega)
    have HO := Lib.hid ho
    have HV := Lib.hid hv
    have HD := Lib.hid hK
    have q5 := hv.cell
    clear hm hrow hpg hII ho hv hK hfr
    refine wpIn_wide.2 ?_
    go_wp2_with fail
    refine (sort_ints HO.out hm1).mono ?_
    rintro e w7 ⟨rfl, o7, f7⟩
    have HO7 := Lib.hid o7
    have v7 : Boxed w7 (w.heap.size + 1) 74 (.slice A m c) := (f7.block _ HV.out.lt hn5).trans HV.out
    have HV7 := Lib.hid v7
    have HD7 := Lib.hid ((f7.block D hDW hnD).trans HD.out)
    have F7 := Lib.hid (fr_past FW.out f7 fun b hb e => by have := (hlt b e.symm).1; omega)
    have hsz7 := f7.size
    clear q5
    have q5 := v7.cell
    clear v7 o7 f7
    go_wp2_with fail
    refine (compact_ints HO7.out (ascend_le _) hm1).mono ?_
    rintro e w8 ⟨m8, rfl, o8, f8⟩
    have HO8 := Lib.hid o8
    have HD8 := Lib.hid ((f8.block D (by omega) hnD).trans HD7.out)
    have F8 := Lib.hid (fr_past F7.out f8 fun b hb e => by have := (hlt b e.symm).1; omega)
    clear o8 f8 q5
    go_wp2_with fail
    refine ⟨by simp, .inl ⟨_, _, rfl, run_takeDeferred HD8.out, ?_⟩⟩
    refine ⟨.slice A m8 c, ?_, A, m8, c, rfl, ?_, ?_⟩
    · simp [results, Tryz.results35, go_sem]
    · refine ((HO8.out.move (Fr.of_grown (grownBy_putObj' w8 D (.deferred none))) (fun _ hb _ => hb.elim) fun j hj e => hnD ?_).lower (by omega)).any
      rw [← e]
      cases A <;> exact hj.symm
    · exact F8.out.row (grownBy_putObj' w8 D (.deferred none)) (fun r e => by cases e; omega)
end Go.Proofs.YtoaamcpiljoojaaGreatDoor
