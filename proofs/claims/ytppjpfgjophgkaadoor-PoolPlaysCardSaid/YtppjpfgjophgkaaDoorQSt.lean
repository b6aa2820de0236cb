/- What the pool's law's lists are: pages by number, numbers that rise. -/
import Derived.Test.YtppjpfgjophgkaaDoorMn
import Derived.Test.YtppjpfgjophgkaaDoorPkP
import Derived.Test.YtppjpfgjophgkaaDoorSml
namespace Go.Proofs.YtppjpfgjophgkaaDoor
open Go.RowKit Go.Maps

theorem papply_ok {p : Page} {r : Redo} (h : PageOk p) (hv : validIx r = none) : PageOk (papply p r) ∧ (papply p r).id = p.id := by
  have hvx := validIx_none hv
  obtain ⟨e1, e2⟩ := papply_small (p := p) (r := r) ⟨h.en, h.es⟩ (by omega) (by omega)
  obtain ⟨i0, i1, l0, l1, v0, v1, x0, x1, en, es⟩ := h
  have key : (papply p r).id = p.id ∧ 0 ≤ (papply p r).lsn ∧ (papply p r).lsn ≤ 1099511627776 ∧ 0 ≤ (papply p r).level ∧ (papply p r).level ≤ 16 ∧ -1 ≤ (papply p r).next ∧ (papply p r).next < 256 := by
    unfold papply
    repeat' split
    all_goals first | omega | (dsimp only; omega)
  exact ⟨⟨by omega, by omega, by omega, by omega, by omega, by omega, by omega, by omega, e1, e2⟩, key.1⟩
theorem rise_ext : ∀ {a b : List Int}, a.Pairwise (· < ·) → b.Pairwise (· < ·) → (∀ k, k ∈ a ↔ k ∈ b) → a = b
  | [], [], _, _, _ => rfl
  | [], y :: b, _, _, h => by have := (h y).2 List.mem_cons_self; cases this
  | x :: a, [], _, _, h => by have := (h x).1 List.mem_cons_self; cases this
  | x :: a, y :: b, ha, hb, h => by
    rw [List.pairwise_cons] at ha hb
    have hxy : x = y := by
      rcases List.mem_cons.1 ((h x).1 List.mem_cons_self) with h1 | h1
      · exact h1
      rcases List.mem_cons.1 ((h y).2 List.mem_cons_self) with h2 | h2
      · exact h2.symm
      have := hb.1 x h1
      have := ha.1 y h2
      omega
    subst hxy
    have := rise_ext ha.2 hb.2 fun k => ⟨fun hk => by
      rcases List.mem_cons.1 ((h k).1 (List.mem_cons_of_mem _ hk)) with h1 | h1
      · have := ha.1 k hk
        omega
      · exact h1, fun hk => by
      rcases List.mem_cons.1 ((h k).2 (List.mem_cons_of_mem _ hk)) with h1 | h1
      · have := hb.1 k hk
        omega
      · exact h1⟩
    rw [this]

theorem rise_len : ∀ {a : List Int} {lo hi : Int}, a.Pairwise (· < ·) → (∀ k ∈ a, lo ≤ k ∧ k < hi) → (a.length : Int) ≤ max 0 (hi - lo)
  | [], _, _, _, _ => by simp; omega
  | x :: a, lo, hi, h, hb => by
    rw [List.pairwise_cons] at h
    have h1 := rise_len (lo := x + 1) (hi := hi) h.2 fun k hk => ⟨by have := h.1 k hk; omega, (hb k (List.mem_cons_of_mem _ hk)).2⟩
    have h2 := hb x List.mem_cons_self
    rw [List.length_cons]
    omega
structure PlSt (s : PSt) (hv : List Page) (ws : List Int) : Prop where
  have_ : ∀ k p, s.have_ k = some p ↔ p ∈ hv ∧ p.id = k
  ids : (hv.map Page.id).Nodup
  nh : s.nh = hv.length
  ok : ∀ p ∈ hv, PageOk p
  wants : ∀ k, k ∈ ws ↔ (s.wants k).isSome = true
  rise : ws.Pairwise (· < ·)
  nw : s.nw = ws.length
  wb : ∀ k ∈ ws, 0 ≤ k ∧ k < 256
theorem PlSt.nw_le {s : PSt} {hv : List Page} {ws : List Int} (h : PlSt s hv ws) : s.nw ≤ 256 := by
  have h1 := rise_len h.rise h.wb
  have h2 := h.nw
  omega
theorem PlSt.start : PlSt ⟨fun _ => none, 0, fun _ => none, 0⟩ [] [] :=
  ⟨fun k p => (by simp), List.nodup_nil, rfl, fun p hp => (by cases hp), fun k => (by simp), List.Pairwise.nil, rfl, fun k hk => (by cases hk)⟩
section
variable {s : PSt} {hv : List Page} {ws : List Int}
theorem PlSt.ix (h : PlSt s hv ws) {i j : Nat} {p q : Page} (hi : hv[i]? = some p) (hj : hv[j]? = some q) (he : p.id = q.id) : i = j := by
  have h1 : (hv.map Page.id)[i]? = some p.id := by rw [List.getElem?_map, hi]; rfl
  have h2 : (hv.map Page.id)[j]? = some q.id := by rw [List.getElem?_map, hj]; rfl
  have hl : i < (hv.map Page.id).length := (List.getElem?_eq_some_iff.1 h1).1
  exact (List.getElem?_inj hl h.ids).1 (by rw [h1, h2, he])
theorem PlSt.at_ (h : PlSt s hv ws) {i : Nat} {p : Page} (hi : hv[i]? = some p) : s.have_ p.id = some p := (h.have_ _ _).2 ⟨List.mem_of_getElem? hi, rfl⟩
theorem PlSt.no (h : PlSt s hv ws) {k : Int} (hk : ∀ p ∈ hv, p.id ≠ k) : s.have_ k = none := by
  cases hm : s.have_ k with
  | none => rfl
  | some p =>
    obtain ⟨h1, h2⟩ := (h.have_ k p).1 hm
    exact absurd h2 (hk p h1)
theorem PlSt.set (h : PlSt s hv ws) {i : Nat} {y q : Page} (hi : hv[i]? = some y) (hq : q.id = y.id) (hok : PageOk q) : PlSt (s.has y.id q) (hv.set i q) ws := by
  have hl := (List.getElem?_eq_some_iff.1 hi).1
  refine ⟨fun k p => ?_, ?_, ?_, fun p hp => ?_, h.wants, h.rise, h.nw, h.wb⟩
  · show gput s.have_ y.id q k = some p ↔ _
    unfold gput
    by_cases hk : k = y.id
    · rw [if_pos hk]
      constructor
      · intro he
        obtain rfl := Option.some.inj he
        exact ⟨List.mem_set hl q, by rw [hq, hk]⟩
      · rintro ⟨hm, hid⟩
        obtain ⟨j, hj⟩ := List.mem_iff_getElem?.1 hm
        rw [List.getElem?_set] at hj
        split at hj
        · exact hj
        · rename_i hne
          have := h.ix hi hj (by rw [hid, hk])
          exact absurd this hne
    · rw [if_neg hk, h.have_]
      constructor
      · rintro ⟨hm, hid⟩
        refine ⟨?_, hid⟩
        obtain ⟨j, hj⟩ := List.mem_iff_getElem?.1 hm
        refine List.mem_iff_getElem?.2 ⟨j, ?_⟩
        rw [List.getElem?_set, if_neg, hj]
        rintro rfl
        rw [hi] at hj
        obtain rfl := Option.some.inj hj
        exact hk hid.symm
      · rintro ⟨hm, hid⟩
        refine ⟨?_, hid⟩
        obtain ⟨j, hj⟩ := List.mem_iff_getElem?.1 hm
        rw [List.getElem?_set] at hj
        split at hj
        · obtain rfl := Option.some.inj hj
          exact absurd (by rw [← hid, hq]) hk
        · exact List.mem_of_getElem? hj
  · rw [List.map_set, hq]
    have : (hv.map Page.id).set i y.id = hv.map Page.id := by
      refine List.ext_getElem? fun j => ?_
      rw [List.getElem?_set]
      split
      · rename_i he
        subst he
        rw [if_pos (by rw [List.length_map]; exact hl), List.getElem?_map, hi]
        rfl
      · rfl
    rw [this]
    exact h.ids
  · show (if (s.have_ y.id).isSome then s.nh else s.nh + 1) = _
    rw [h.at_ hi, List.length_set]
    exact h.nh
  · rcases List.mem_or_eq_of_mem_set hp with h1 | h1
    · exact h.ok p h1
    · rw [h1]
      exact hok
theorem PlSt.add (h : PlSt s hv ws) {q : Page} (hno : ∀ p ∈ hv, p.id ≠ q.id) (hok : PageOk q) : PlSt (s.has q.id q) (hv ++ [q]) ws := by
  refine ⟨fun k p => ?_, ?_, ?_, fun p hp => ?_, h.wants, h.rise, h.nw, h.wb⟩
  · show gput s.have_ q.id q k = some p ↔ _
    unfold gput
    rw [List.mem_append, List.mem_singleton]
    by_cases hk : k = q.id
    · rw [if_pos hk]
      constructor
      · intro he
        obtain rfl := Option.some.inj he
        exact ⟨.inr rfl, hk.symm⟩
      · rintro ⟨h1 | h1, hid⟩
        · exact absurd (by rw [hid, hk]) (hno p h1)
        · rw [h1]
    · rw [if_neg hk, h.have_]
      constructor
      · rintro ⟨h1, h2⟩
        exact ⟨.inl h1, h2⟩
      · rintro ⟨h1 | h1, hid⟩
        · exact ⟨h1, hid⟩
        · rw [h1] at hid
          exact absurd hid.symm hk
  · rw [List.map_append, List.nodup_append]
    refine ⟨h.ids, by simp, fun a ha b hb => ?_⟩
    obtain ⟨p, hp, rfl⟩ := List.mem_map.1 ha
    simp only [List.map_cons, List.map_nil, List.mem_singleton] at hb
    rw [hb]
    exact hno p hp
  · show (if (s.have_ q.id).isSome then s.nh else s.nh + 1) = _
    rw [h.no hno, List.length_append, h.nh]
    rfl
  · rcases List.mem_append.1 hp with h1 | h1
    · exact h.ok p h1
    · rw [List.mem_singleton.1 h1]
      exact hok
theorem PlSt.unwant (h : PlSt s hv ws) (i : Int) : PlSt (s.unwant i) hv (ws.filter fun k => decide (k ≠ i)) := by
  have hmem : ∀ k, k ∈ (ws.filter fun k => decide (k ≠ i)) ↔ k ∈ ws ∧ k ≠ i := fun k => by rw [List.mem_filter, decide_eq_true_eq]
  refine ⟨h.have_, h.ids, h.nh, h.ok, fun k => ?_, h.rise.filter _, ?_, fun k hk => h.wb k ((hmem k).1 hk).1⟩
  · rw [hmem, h.wants]
    show _ ↔ (gdel s.wants i k).isSome = true
    unfold gdel
    by_cases hk : k = i
    · rw [if_pos hk]; simp [hk]
    · rw [if_neg hk]; simp [hk]
  · show (if (s.wants i).isSome then s.nw - 1 else s.nw) = _
    have hnd : ws.Nodup := h.rise.imp fun hab he => by omega
    by_cases hi : (s.wants i).isSome = true
    · rw [if_pos hi, h.nw]
      have h1 := (h.wants i).2 hi
      have h2 := hnd.erase_eq_filter i
      have h3 : (ws.filter fun k => decide (k ≠ i)) = ws.erase i := by
        rw [h2]
        congr 1
        funext k
        by_cases hk : k = i <;> simp [hk]
      rw [h3, List.length_erase_of_mem h1]
    · rw [if_neg hi, h.nw]
      congr 1
      refine (List.filter_eq_self.2 fun k hk => ?_).symm
      rw [decide_eq_true_eq]
      rintro rfl
      exact hi ((h.wants k).1 hk)
theorem PlSt.want (h : PlSt s hv ws) {i : Int} (h0 : 0 ≤ i) (h1 : i < 256) {ws' : List Int} (hr : ws'.Pairwise (· < ·)) (hm : ∀ k, k ∈ ws' ↔ k ∈ ws ∨ k = i) : PlSt (s.want i) hv ws' := by
  refine ⟨h.have_, h.ids, h.nh, h.ok, fun k => ?_, hr, ?_, fun k hk => ?_⟩
  · rw [hm, h.wants]
    show _ ↔ (gput s.wants i () k).isSome = true
    unfold gput
    by_cases hk : k = i
    · rw [if_pos hk]; simp [hk]
    · rw [if_neg hk]; simp [hk]
  · show (if (s.wants i).isSome then s.nw else s.nw + 1) = _
    have hnd : ws.Nodup := h.rise.imp fun hab he => by omega
    have hnd' : ws'.Nodup := hr.imp fun hab he => by omega
    by_cases hi : (s.wants i).isSome = true
    · rw [if_pos hi, h.nw]
      have : ws = ws' := rise_ext h.rise hr fun k => by
        rw [hm]
        exact ⟨.inl, fun hk => hk.elim id fun he => by rw [he]; exact (h.wants i).2 hi⟩
      rw [this]
    · rw [if_neg hi, h.nw]
      have hni : i ∉ ws := fun hh => hi ((h.wants i).1 hh)
      have hp : ws'.Perm (i :: ws) := (List.perm_ext_iff_of_nodup hnd' (List.nodup_cons.2 ⟨hni, hnd⟩)).2 fun k => by
        rw [hm, List.mem_cons]
        exact ⟨fun hk => hk.symm, fun hk => hk.symm⟩
      rw [hp.length_eq, List.length_cons]
  · rcases (hm k).1 hk with h2 | h2
    · exact h.wb k h2
    · omega
theorem PlSt.drop (h : PlSt s hv ws) {L : Int} {n' : Nat} {S : Nat → Prop} {w : World} {b : Nat} (hg : GMap elPage Tryd.prog 3 S w b (s.dropped L n').have_ (s.dropped L n').nh) :
    PlSt (s.dropped L n') (hv.filter fun p => decide (L < p.lsn)) ws := by
  have hh : ∀ k p, (s.dropped L n').have_ k = some p ↔ p ∈ (hv.filter fun p => decide (L < p.lsn)) ∧ p.id = k := fun k p => by
    show (s.have_ k).filter _ = some p ↔ _
    rw [Option.filter_eq_some_iff, h.have_, List.mem_filter]
    exact ⟨fun hx => ⟨⟨hx.1.1, hx.2⟩, hx.1.2⟩, fun hx => ⟨⟨hx.1.1, hx.2⟩, hx.1.2⟩⟩
  have hids : ((hv.filter fun p => decide (L < p.lsn)).map Page.id).Nodup := h.ids.sublist ((List.filter_sublist).map _)
  refine ⟨hh, hids, ?_, fun p hp => h.ok p (List.mem_filter.1 hp).1, h.wants, h.rise, h.nw, h.wb⟩
  obtain ⟨ks, hk1, hk2, hk3⟩ := hg.keys
  rw [← hk1, ← List.length_map (f := Page.id)]
  have hnd : ks.Nodup := hk2.imp fun hab he => by omega
  refine ((List.perm_ext_iff_of_nodup hnd hids).2 fun k => ?_).length_eq
  rw [hk3, List.mem_map]
  constructor
  · rintro ⟨_, hs⟩
    obtain ⟨p, hp⟩ := Option.isSome_iff_exists.1 hs
    obtain ⟨h1, h2⟩ := (hh k p).1 hp
    exact ⟨p, h1, h2⟩
  · rintro ⟨p, hp, hid⟩
    have hpo := h.ok p (List.mem_filter.1 hp).1
    refine ⟨in64_of (by have := hpo.i0; omega) (by have := hpo.i1; omega), ?_⟩
    rw [(hh k p).2 ⟨hp, hid⟩]
    rfl
end
end Go.Proofs.YtppjpfgjophgkaaDoor
