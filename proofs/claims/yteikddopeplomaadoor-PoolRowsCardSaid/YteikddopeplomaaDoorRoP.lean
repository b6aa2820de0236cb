/- What a pool of bare pages has and wants, beside the statement's own lists; a number of an own row turned. -/
import Derived.Test.YteikddopeplomaaDoorMn
import Derived.Test.YteikddopeplomaaDoorPkP
import Derived.Test.YteikddopeplomaaDoorRiW
import Derived.Test.YteikddopeplomaaDoorPoW
import Derived.Laws.OwnMore
namespace Go.Proofs.YteikddopeplomaaDoor
open Go.RowKit Go.Maps

theorem own_int_put {e : TypeId} {base : Nat} {w : World} {v : Value} {xs : List Int} (h : Own kInt e base All w v xs) {k : Nat} {b : Int} (hk : xs[k]? = some b) (y : Int) :
    ∃ g c, v = .slice (some ⟨g, 0, none⟩) xs.length c ∧ base ≤ g ∧ g < w.heap.size ∧ w.cell? ⟨g, k, none⟩ = some (.int .i64 b) ∧ w.frozen? ⟨g, k, none⟩ = false ∧ Own kInt e base All (w.setCell ⟨g, k, none⟩ (.int .i64 y)) v (xs.set k y) := by
  have hsl := h.sl
  have hlen := (List.getElem?_eq_some_iff.1 hk).1
  obtain ⟨cs, ho, hr⟩ := h
  have hcs : cs = xs.map (Value.int .i64) := by
    have : ∀ {xs : List Int} {cs : List Value}, Reps kInt (fun x => All x ∧ some x ≠ v.ownBlock) w xs cs → cs = xs.map (Value.int .i64) := by
      intro xs
      induction xs with
      | nil => intro cs h; exact h
      | cons x xs ih =>
        rintro cs ⟨c1, c2, rfl, h1, h2⟩
        have h1' : c1 = [Value.int .i64 x] := h1
        rw [h1', ih h2]
        rfl
    exact this hr
  subst hcs
  rcases ho.2 with ⟨_, h0⟩ | ⟨g, cap, cur, rfl, hg, hcell, hn, hm, hsz, htk⟩
  · omega
  obtain ⟨hc1, hz⟩ := blk_cells hcell
  obtain ⟨g', o', hA', hck⟩ := hsl.at1 hk
  have hA2 := Option.some.inj hA'
  injection hA2 with hg1 ho1 _
  subst hg1
  subst ho1
  rw [Nat.zero_add] at hck
  have hst := (ho.stored k (.int .i64 y)).1
  refine ⟨g, cap, rfl, hg, World.block_lt_of_cell? w ⟨g, k, none⟩ hck, hck, hz k, (xs.set k y).map (Value.int .i64), ?_, ?_⟩
  · rw [List.length_set, List.map_set]
    exact hst
  · have : ∀ {S : Nat → Prop} {w : World} (xs : List Int), Reps kInt S w xs (xs.map (Value.int .i64)) := by
      intro S w xs
      induction xs with
      | nil => rfl
      | cons x xs ih => exact ⟨[_], _, rfl, rfl, ih⟩
    exact this _

theorem info_l64 : (Tryd.prog.info? 2).map (fun i => (i.zero, i.size, i.bytes)) = some (some (.int .i64 0), kInt.sz, 8) := by kernel_rfl
/-- make([]int64, n). -/
theorem run_mkl (w : World) {n : Nat} (hn : n ≤ 1000000) : ∃ w', (Instr.makeSlice 51 (.int .i64 (n : Int)) (.int .i64 (n : Int))).run Tryd.prog w = .ok (.slice (some ⟨w.heap.size, 0, none⟩) n n) w' ∧ Own kInt 2 w.heap.size All w' (.slice (some ⟨w.heap.size, 0, none⟩) n n) (List.replicate n 0) ∧ Fr All w w' := by
  obtain ⟨i0, hi, hzz⟩ := Option.map_eq_some_iff.1 info_l64
  simp only [Prod.mk.injEq] at hzz
  obtain ⟨hz0, hz1, hz2⟩ := hzz
  have hr := run_make (P := Tryd.prog) w 51 2 i0 (.int .i64 0) Tryd.underlying51 hi hz0 .i64 .i64 n n (by omega) (by omega) (by rw [hz2]; omega) (by omega)
  simp only [Int.toNat_natCast] at hr
  rw [hz1, show kInt.sz = 1 from rfl, Nat.mul_one] at hr
  have he : madeCells (Value.int .i64 0).cells n = ((List.replicate n (0 : Int)).map (Value.int .i64)).toArray := by
    apply Array.toList_inj.1
    rw [List.map_replicate]
    exact toList_madeCells_one _ n
  rw [he] at hr
  have ho := Own.lay (d := kInt) (e := 2) (S := All) (w := w) (reps_plain (List.replicate n 0)) (Nat.le_refl _) (by simp only [maxLen, List.length_replicate]; omega)
  rw [List.length_replicate] at ho
  exact ⟨_, hr, ho, (Fr.refl _ _).alloc _⟩

/-- Pages without entries lie nowhere. -/
theorem GMap.bare {P : Program} {K : TypeId} {S S' : Nat → Prop} {w : World} {b n : Nat} {m : Int → Option Page} (h : GMap elPage P K S w b m n) (hb : ∀ k p, m k = some p → p.ents = []) : GMap elPage P K S' w b m n := by
  obtain ⟨D, h1, h2, h3⟩ := h
  refine ⟨D, h1, h2, fun k hk => ?_⟩
  have h4 := h3 k hk
  cases hm : m k with
  | none => rw [hm] at h4; exact h4
  | some p =>
    rw [hm] at h4
    obtain ⟨a, v, c, A, cc, rfl, hs⟩ := h4
    have he := hb k p hm
    refine ⟨a, _, c, A, cc, rfl, ?_⟩
    obtain ⟨_, _, _, he5, hl5, h5, h6⟩ := hs.open_
    injection he5 with _ _ h7
    rw [he] at hs ⊢
    exact Sl.empty_ _ _ _ _ _ (by rw [h7]; exact h6)

/-- The statement's lists beside the pool. -/
structure RowSt (s : PSt) (hv : List Int) (ws : List Int) : Prop where
  len : hv.length = 8
  bnd : ∀ (k : Nat) x, hv[k]? = some x → 0 ≤ x ∧ x ≤ 30
  have_ : ∀ k : Int, s.have_ k = if 0 ≤ k ∧ k < 8 ∧ 0 < hv.getD k.toNat 0 then some ⟨k, hv.getD k.toNat 0, 0, -1, []⟩ else none
  rise : ws.Pairwise (· < ·)
  mem : ∀ k : Int, k ∈ ws ↔ (s.wants k).isSome = true
  small : ∀ k ∈ ws, 0 ≤ k ∧ k < 8
theorem RowSt.start : RowSt .new (List.replicate 8 0) [] := by
  refine ⟨rfl, ?_, ?_, List.Pairwise.nil, fun k => by simp [PSt.new], fun k hk => by cases hk⟩
  · intro k x hx
    rw [List.getElem?_replicate] at hx
    split at hx
    · obtain rfl := Option.some.inj hx
      omega
    · cases hx
  · intro k
    rw [if_neg]
    · rfl
    · rintro ⟨h0, h1, h2⟩
      rw [List.getD_eq_getElem?_getD, List.getElem?_replicate] at h2
      split at h2 <;> simp at h2
section
variable {s : PSt} {hv ws : List Int}
theorem RowSt.bare (h : RowSt s hv ws) : ∀ k p, s.have_ k = some p → p.ents = [] := fun k p hp => by
  rw [h.have_] at hp
  split at hp
  · obtain rfl := Option.some.inj hp
    rfl
  · cases hp
theorem RowSt.get (h : RowSt s hv ws) {i : Nat} {x : Int} (hx : hv[i]? = some x) : s.have_ (i : Int) = if 0 < x then some ⟨(i : Int), x, 0, -1, []⟩ else none := by
  have hi : i < 8 := by have := (List.getElem?_eq_some_iff.1 hx).1; rw [h.len] at this; exact this
  have hg : hv.getD i 0 = x := by rw [List.getD_eq_getElem?_getD, hx]; rfl
  rw [h.have_, Int.toNat_natCast, hg]
  by_cases h0 : 0 < x
  · rw [if_pos ⟨by omega, by omega, h0⟩, if_pos h0]
  · rw [if_neg (fun hh => h0 hh.2.2), if_neg h0]
/-- A Get of a page that isn't there. -/
theorem RowSt.want (h : RowSt s hv ws) {i : Nat} (hi : i < 8) : RowSt (s.want i) hv (insI i ws) := by
  refine ⟨h.len, h.bnd, h.have_, insI_rise h.rise, fun k => ?_, fun k hk => ?_⟩
  · rw [insI_mem, h.mem]
    show _ ↔ (gput s.wants i () k).isSome = true
    unfold gput
    split
    · rename_i e
      subst e
      simp
    · rename_i e
      simp [e]
  · rcases insI_mem.1 hk with rfl | hk
    · omega
    · exact h.small k hk
theorem RowSt.nw (h : RowSt s hv ws) {S : Nat → Prop} {w : World} {b : Nat} (hg : GMap elTrue Tryd.prog 3 S w b s.wants s.nw) : s.nw = ws.length ∧ s.nw ≤ 8 := by
  have hc := hg.count 8 (by omega) (fun k hk => h.small k ((h.mem k).2 hk))
  have h8 : s.nw ≤ 8 := by
    rw [hc]
    have := List.length_filter_le (fun i : Nat => (s.wants (i : Int)).isSome) (List.range 8)
    simpa using this
  obtain ⟨ks, k1, k2, k3⟩ := hg.keys
  have he : ks = ws := sorted_ext _ _ k2 h.rise fun k => by
    rw [k3, h.mem]
    constructor
    · exact fun hh => hh.2
    · intro hh
      have := h.small k ((h.mem k).2 hh)
      exact ⟨in64_of (by omega) (by omega), hh⟩
  rw [← he, k1]
  exact ⟨rfl, h8⟩
end
end Go.Proofs.YteikddopeplomaaDoor
