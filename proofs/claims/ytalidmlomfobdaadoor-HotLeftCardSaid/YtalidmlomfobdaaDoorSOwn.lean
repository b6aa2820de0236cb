/- A row of records of one's own, sorted in place. -/
import Derived.Test.YtalidmlomfobdaaDoorSPerm
namespace Go.Proofs.YtalidmlomfobdaaDoor
open Go.RowKit Go.Sort Go.Shelf

theorem rcs_of {S : Nat → Prop} {w : World} : ∀ {l : List Redo} {cs : List Value}, Reps kRedo S w l cs → ∃ ps : List (Redo × RC), ps.map (·.1) = l ∧ cs = (ps.map (·.2)).flatMap RC.enc ∧ ∀ p ∈ ps, kRedo.K S w p.1 p.2.enc
  | [], cs, h => ⟨[], rfl, by rw [h]; rfl, fun p hp => by simp at hp⟩
  | x :: l, cs, h => by
    obtain ⟨c1, c2, rfl, h1, h2⟩ := h
    obtain ⟨ps, e1, e2, e3⟩ := rcs_of h2
    have h1' := h1
    obtain ⟨v0, v1, rfl, k0, k1⟩ := kRedo_open h1
    obtain ⟨A0, n0, c0, rfl, _⟩ := k0.open_
    obtain ⟨A1, n1, c1, rfl, _⟩ := k1.open_
    refine ⟨(x, ⟨x.lsn, x.back, x.epoch, x.group, x.page, x.kind, x.slot, (A0, n0, c0), (A1, n1, c1), x.last⟩) :: ps, by rw [List.map_cons, e1], by rw [List.map_cons, List.flatMap_cons, e2]; rfl, fun p hp => ?_⟩
    rcases List.mem_cons.1 hp with rfl | hp
    · exact h1'
    · exact e3 p hp
theorem reps_rcs {S : Nat → Prop} {w : World} : ∀ (ps : List (Redo × RC)), (∀ p ∈ ps, kRedo.K S w p.1 p.2.enc) → Reps kRedo S w (ps.map (·.1)) ((ps.map (·.2)).flatMap RC.enc)
  | [], _ => rfl
  | p :: ps, h => ⟨p.2.enc, (ps.map (·.2)).flatMap RC.enc, rfl, h p List.mem_cons_self, reps_rcs ps fun q hq => h q (List.mem_cons_of_mem _ hq)⟩

theorem flat_get : ∀ (l : List RC) (t : Nat), t < l.length * 10 → (l.flatMap RC.enc)[t]? = some (((l.getD (t / 10) default).enc)[t % 10]!)
  | [], t, h => by simp at h
  | x :: l, t, h => by
    have hx : x.enc.length = 10 := rfl
    rw [List.flatMap_cons]
    by_cases ht : t < 10
    · rw [List.getElem?_append_left (by omega), show t / 10 = 0 by omega, show t % 10 = t by omega, List.getElem?_eq_getElem (by omega)]
      simp only [List.getD_cons_zero]
      rw [getElem!_pos x.enc t (by omega)]
    · rw [List.getElem?_append_right (by omega), hx, flat_get l (t - 10) (by simp only [List.length_cons] at h; omega), show t / 10 = (t - 10) / 10 + 1 by omega, List.getD_cons_succ, show (t - 10) % 10 = t % 10 by omega]

theorem flat_len : ∀ l : List RC, (l.flatMap RC.enc).length = l.length * 10
  | [] => rfl
  | x :: l => by
    rw [List.flatMap_cons, List.length_append, flat_len l, List.length_cons]
    show 10 + l.length * 10 = (l.length + 1) * 10
    omega
theorem flatK_toList (d : Array RC) : (flatK RC.enc 10 d).toList = d.toList.flatMap RC.enc := by
  apply List.ext_getElem?
  intro t
  by_cases ht : t < d.size * 10
  · rw [flat_get d.toList t (by simpa using ht)]
    have h1 := get_flatK RC.enc 10 d t ht
    have hs : t < (flatK RC.enc 10 d).size := by simpa using ht
    rw [getElem!_pos _ t hs] at h1
    rw [Array.getElem?_toList, Array.getElem?_eq_getElem hs, h1]
    have hd : t / 10 < d.size := by omega
    rw [getElem!_pos d _ hd, List.getD_eq_getElem?_getD, Array.getElem?_toList, Array.getElem?_eq_getElem hd]
    rfl
  · rw [List.getElem?_eq_none (by simpa using ht), List.getElem?_eq_none]
    rw [flat_len]
    simpa using ht

theorem rc_lsn {S : Nat → Prop} {w : World} {x : Redo} {y : RC} (h : kRedo.K S w x y.enc) : y.lsn = x.lsn := by
  obtain ⟨v0, v1, he, _⟩ := kRedo_open h
  have h1 : Value.int .i64 y.lsn = Value.int .i64 x.lsn := (List.cons.inj he).1
  injection h1
/-- The insertion sort of a row of one's own. -/
theorem insertion_own {base : Nat} {S : Nat → Prop} {w : World} {g n c a b : Nat} {l : List Redo} (h : Own kRedo 34 base S w (.slice (some ⟨g, 0, none⟩) n c) l) (hab : a ≤ b) (hb : b ≤ n) (hn : n ≤ 1000000) :
    Calls Tryd.prog 137 #[.slice (some ⟨g, 0, none⟩) n c, .int .i64 a, .int .i64 b, .func (.func 105) #[] #[]] w fun e w' =>
      e = .returned (.tuple #[]) ∧ ∃ l', PermR l' l ∧ Own kRedo 34 base S w' (.slice (some ⟨g, 0, none⟩) n c) l' ∧ Fr (But (some g)) w w' := by
  obtain ⟨cs, ho, hr⟩ := h
  obtain ⟨ps, rfl, rfl, hK⟩ := rcs_of hr
  obtain ⟨hlen, ho⟩ := ho
  rcases ho with ⟨hv, _⟩ | ⟨g', cap, cur, hv, hbg, hg, hnc, hcm, hcs, ht⟩
  · cases hv
  obtain ⟨e1, e2, e3⟩ := Value.slice.inj hv
  obtain rfl : g = g' := by
    injection e1 with e1
    injection e1
  subst e3
  have hglt := (Array.getElem?_eq_some_iff.1 hg).1
  have hpl : ps.length = n := by rw [e2, List.length_map]
  rw [← e2] at hnc ht hlen
  rw [show kRedo.sz = 10 from rfl] at hlen ht hcs
  -- the row
  have hd : ((ps.map (·.2)).toArray : Array RC).size = n := by simp [hpl]
  have hH : HoldsK RC.enc 10 w g 0 (ps.map (·.2)).toArray := by
    intro j hj
    rw [size_flatK, hd] at hj
    refine ⟨?_, frozen_of_row w g _ cur _ hg⟩
    rw [Nat.zero_add, cell_of_row w g j cur _ (0, 0) hg]
    have h1 : cur.toList[j]? = ((ps.map (·.2)).flatMap RC.enc)[j]? := by
      rw [← ht, List.getElem?_take, if_pos hj]
    have h2 := flat_get (ps.map (·.2)) j (by rw [List.length_map, hpl]; exact hj)
    rw [h2] at h1
    rw [Array.getElem?_toList] at h1
    rw [h1, get_flatK RC.enc 10 _ j (by rw [hd]; exact hj), getElem!_pos _ (j / 10) (by rw [hd]; omega), List.getD_eq_getElem?_getD]
    simp only [List.getElem_toArray, id_eq]
    rw [List.getElem?_eq_getElem (by rw [List.length_map]; omega)]
    rfl
  have hC := AnyQ.insertionSortCmpFunc (P := Tryd.prog) (ρ := sortRen) sortLays 10 (fun _ => by kernel_rfl) (fun _ => by kernel_rfl) RC.enc (fun _ => rfl) (fun x v hv => by
      simp only [RC.enc, List.mem_cons, List.not_mem_nil, or_false] at hv
      rcases hv with rfl | rfl | rfl | rfl | rfl | rfl | rfl | rfl | rfl | rfl <;> rfl) rcCmp 105 #[] g 0 c a b (ps.map (·.2)).toArray w (fun args w => by kernel_rfl) (fun m os dk _ x y => by
      refine (sort_cmp x y _).mono fun e w' ⟨h1, q, os', h2⟩ => ⟨h1, q, os', h2⟩) hH hglt hab (by rw [hd]; exact hb) (by rw [hd]; omega)
  rw [hd] at hC
  refine (show Calls Tryd.prog 137 #[.slice (some ⟨g, 0, none⟩) n c, .int .i64 a, .int .i64 b, .func (.func 105) #[] #[]] w _ from hC).mono ?_
  rintro e w' ⟨rfl, m, os, rfl⟩
  obtain ⟨hp, hsz⟩ := insertionSort_perm' (ltOf rcCmp) (ps.map (·.2)).toArray a b (by rw [hd]; exact hb)
  obtain ⟨d', hd'⟩ : ∃ d', insertionSort (ltOf rcCmp) (ps.map (·.2)).toArray a b = d' := ⟨_, rfl⟩
  rw [hd'] at hp hsz ⊢
  rw [hd] at hsz
  obtain ⟨ps', hp1, hp2, hp3⟩ : ∃ ps' : List (Redo × RC), ps'.Perm ps ∧ ps'.map (·.2) = d'.toList ∧ ((ps.map (·.1)).Pairwise (fun a b => a.lsn < b.lsn) → ps' = ps) := by
    by_cases hr0 : (ps.map (·.1)).Pairwise (fun a b => a.lsn < b.lsn)
    · refine ⟨ps, List.Perm.refl _, ?_, fun _ => rfl⟩
      rw [← hd', insertionSort_id]
      intro j hj1 hj2
      have hjn : j < ps.length := by omega
      have e1 : (ps.map (·.2)).toArray[j]! = (ps[j]'hjn).2 := by rw [getElem!_pos _ j (by simpa using hjn)]; simp
      have e2 : (ps.map (·.2)).toArray[j - 1]! = (ps[j - 1]'(by omega)).2 := by rw [getElem!_pos _ (j - 1) (by simp; omega)]; simp
      have h5 := (List.pairwise_iff_getElem.1 hr0) (j - 1) j (by simp; omega) (by simpa using hjn) (by omega)
      simp only [List.getElem_map] at h5
      have k1 := hK _ (List.getElem_mem hjn)
      have k2 := hK _ (List.getElem_mem (show j - 1 < ps.length by omega))
      have l1 : (ps[j]'hjn).2.lsn = (ps[j]'hjn).1.lsn := rc_lsn k1
      have l2 : (ps[j - 1]'(by omega)).2.lsn = (ps[j - 1]'(by omega)).1.lsn := rc_lsn k2
      rw [e1, e2]
      have hc : cmpI (ps[j]'hjn).2.lsn (ps[j - 1]'(by omega)).2.lsn = 1 := by
        unfold cmpI
        rw [if_neg (by omega), if_pos (by omega)]
      unfold ltOf rcCmp
      rw [hc]
      rfl
    · obtain ⟨ps', h1, h2⟩ := perm_lift (f := fun x : Redo × RC => x.2) hp ps (by simp)
      exact ⟨ps', h1, h2, fun h => absurd h hr0⟩
  have hblocks : ∀ k, k < w.heap.size → k ≠ g → (sortWorldK RC.enc 10 w g 0 m d' os).heap[k]? = w.heap[k]? := by
    intro k hk hkg
    unfold sortWorldK grow putRowK putRow mapBlock
    simp only
    rw [Array.getElem?_append_left (by simp [Sort.ahead]; omega), Array.getElem?_modify, if_neg (Ne.symm hkg)]
    rfl
  have hF : Fr (But (some g)) w (sortWorldK RC.enc 10 w g 0 m d' os) := ⟨rfl, rfl, rfl, by unfold sortWorldK grow putRowK putRow mapBlock; simp [Sort.ahead], fun k hk hb => hblocks k hk fun e => hb (by rw [e])⟩
  have hgs : (sortWorldK RC.enc 10 w g 0 m d' os).heap[g]? = some (.cells (putCells id 0 (flatK RC.enc 10 d') cur) 34 (0, 0)) := by
    unfold sortWorldK grow putRowK putRow mapBlock
    simp only
    rw [Array.getElem?_append_left (by simp [Sort.ahead]; omega), Array.getElem?_modify, if_pos rfl]
    show (w.heap[g]?).map _ = _
    rw [hg]
    rfl
  refine ⟨rfl, ps'.map (·.1), ⟨hp1.map _, fun h => by rw [hp3 h]⟩, ⟨(ps'.map (·.2)).flatMap RC.enc, ⟨?_, .inr ⟨g, c, putCells id 0 (flatK RC.enc 10 d') cur, ?_, hbg, hgs, ?_, hcm, ?_, ?_⟩⟩, ?_⟩, hF⟩
  · rw [flat_len, List.length_map, hp1.length_eq, List.length_map, hp1.length_eq]
    rfl
  · rw [List.length_map, hp1.length_eq, hpl]
  · rw [List.length_map, hp1.length_eq, hpl]
    exact hnc
  · simp [putCells, hcs]
    rfl
  · have hlf : (flatK RC.enc 10 d').size = n * 10 := by rw [size_flatK, hsz]
    rw [List.length_map, hp1.length_eq, hpl, show kRedo.sz = 10 from rfl, hp2, ← flatK_toList]
    apply List.ext_getElem?
    intro k
    rw [List.getElem?_take, Array.getElem?_toList, Array.getElem?_toList]
    by_cases hk : k < n * 10
    · have hkc : k < cur.size := by rw [hcs]; have := Nat.mul_le_mul_right 10 hnc; omega
      rw [if_pos hk]
      unfold putCells
      rw [Array.getElem?_mapIdx, Array.getElem?_eq_getElem hkc, Option.map_some, if_pos ⟨Nat.zero_le _, by rw [hlf]; omega⟩, Nat.sub_zero, getElem!_pos _ k (by rw [hlf]; exact hk), Array.getElem?_eq_getElem (by rw [hlf]; exact hk)]
      rfl
    · rw [if_neg hk, Array.getElem?_eq_none (by rw [hlf]; omega)]
  · exact reps_rcs ps' fun p hp => kRedo.move' (hK p (hp1.mem_iff.1 hp)) hF fun b hb _ => hb.2
end Go.Proofs.YtalidmlomfobdaaDoor
