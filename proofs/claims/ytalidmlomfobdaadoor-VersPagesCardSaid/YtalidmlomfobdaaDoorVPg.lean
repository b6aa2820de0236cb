/- Entries put into one of five pages each, one behind the other: what the log says of each page; plain Lean. -/
import Derived.Test.YtalidmlomfobdaaDoorVIds
import Derived.Test.YtalidmlomfobdaaDoorVAt
namespace Go.Proofs.YtalidmlomfobdaaDoor
open Go.RowKit

def byteP (i : Nat) : UInt8 := UInt8.ofNat (i % 256)
/-- The i-th record, from none on; it is one of page d. -/
def recP (d i : Nat) : Redo := ⟨(i : Int) + 1, (i : Int), 0, 0, d, 2, 0, [byteP i], [], false⟩
theorem recP_valid {d i : Nat} (h1 : d < 5) (h8 : i < 30) : validIx (recP d i) = none := by
  have a1 : decide ((i : Int) + 1 < 1) = false := decide_eq_false (by omega)
  have a2 : decide ((i : Int) + 1 > 1099511627776) = false := decide_eq_false (by omega)
  have a4 : decide ((i : Int) < 0) = false := decide_eq_false (by omega)
  have a5 : decide ((i : Int) ≥ (i : Int) + 1) = false := decide_eq_false (by omega)
  have a6 : inB (d : Int) 256 = true := inB_iff.2 ⟨by omega, by omega⟩
  unfold validIx recP
  dsimp only
  rw [a1, a2, a4, a5, a6]
  rfl
def recsP (ds : List Nat) : List Redo := ds.mapIdx fun i d => recP d i
theorem recsP_len (ds : List Nat) : (recsP ds).length = ds.length := by simp [recsP]
theorem recsP_snoc (ds : List Nat) (d : Nat) : recsP (ds ++ [d]) = recsP ds ++ [recP d ds.length] := by simp [recsP, List.mapIdx_append]
theorem recsP_get {ds : List Nat} {i : Nat} {r : Redo} (h : (recsP ds)[i]? = some r) : ∃ d, ds[i]? = some d ∧ r = recP d i := by
  unfold recsP at h
  rw [List.getElem?_mapIdx] at h
  obtain ⟨d, hd, rfl⟩ := Option.map_eq_some_iff.1 h
  exact ⟨d, hd, rfl⟩
theorem recsP_mem {ds : List Nat} {r : Redo} (h : r ∈ recsP ds) : ∃ i d, i < ds.length ∧ ds[i]? = some d ∧ r = recP d i := by
  obtain ⟨i, hi⟩ := List.mem_iff_getElem?.1 h
  obtain ⟨d, hd, rfl⟩ := recsP_get hi
  exact ⟨i, d, (List.getElem?_eq_some_iff.1 hd).1, hd, rfl⟩
theorem recsP_rise (ds : List Nat) : Rise (recsP ds) := by
  unfold Rise
  rw [List.pairwise_iff_getElem]
  intro i j hi hj hij
  obtain ⟨d, _, e1⟩ := recsP_get (List.getElem?_eq_getElem hi)
  obtain ⟨d', _, e2⟩ := recsP_get (List.getElem?_eq_getElem hj)
  rw [e1, e2]
  show (i : Int) + 1 < (j : Int) + 1
  omega
/-- The log behind those. -/
structure Fp (ds : List Nat) (s : HSt) : Prop where
  l : s.l = recsP ds
  five : ∀ d ∈ ds, d < 5
  group : s.group = 0
  spans : s.spans = []
theorem Fp.new : Fp [] (.new 0) := ⟨rfl, fun d hd => by simp at hd, rfl, rfl⟩
section
variable {ds : List Nat} {s : HSt}
theorem Fp.fresh (h : Fp ds s) (d : Nat) : isL s.l (recP d ds.length).lsn = false := by
  rw [isL_false]
  intro x hx he
  rw [h.l] at hx
  obtain ⟨i, d', hi, _, rfl⟩ := recsP_mem hx
  have : (i : Int) + 1 = (ds.length : Int) + 1 := he
  omega
theorem Fp.add (h : Fp ds s) {d : Nat} (hd : d < 5) : Fp (ds ++ [d]) (s.add (recP d ds.length)) := by
  refine ⟨?_, fun x hx => ?_, h.group, h.spans⟩
  · show lins s.l _ = _
    refine Rise.ext _ _ (lins_rise (by rw [h.l]; exact recsP_rise ds) (h.fresh d)) (recsP_rise _) fun r => ?_
    rw [lins_mem, recsP_snoc, h.l, List.mem_append, List.mem_singleton]
    exact Or.comm
  · rcases List.mem_append.1 hx with hx | hx
    · exact h.five x hx
    · rw [List.mem_singleton.1 hx]; exact hd
end
/-- The last one's number. -/
def lastL (l : List Redo) : Int := match l.getLast? with | none => 0 | some r => r.lsn
theorem lastL_snoc (l : List Redo) (r : Redo) : lastL (l ++ [r]) = r.lsn := by simp [lastL]
theorem pageP {d : Nat} : ∀ {L : List Redo}, Rise L → (∀ r ∈ L, r.kind = 2 ∧ r.page = (d : Int) ∧ 0 < r.lsn) → (pall (page0 d) L).id = d ∧ (pall (page0 d) L).ents.length = min L.length 8 ∧ (pall (page0 d) L).lsn = lastL L := by
  intro L
  induction hn : L.length generalizing L with
  | zero =>
    intro _ _
    obtain rfl := List.eq_nil_of_length_eq_zero hn
    exact ⟨rfl, rfl, rfl⟩
  | succ n ih =>
    intro hR hk
    obtain ⟨K, r, rfl⟩ : ∃ K r, L = K ++ [r] := by
      rcases List.eq_nil_or_concat L with h | ⟨K, r, h⟩
      · subst h; simp at hn
      · exact ⟨K, r, by rw [h, List.concat_eq_append]⟩
    have hK : K.length = n := by simpa using hn
    have hRK : Rise K := hR.sublist (List.sublist_append_left _ _)
    obtain ⟨h1, h2, h3⟩ := ih hK hRK fun x hx => hk x (List.mem_append_left _ hx)
    obtain ⟨k1, k2, k3⟩ := hk r (List.mem_append_right _ List.mem_cons_self)
    have hlt : (pall (page0 d) K).lsn < r.lsn := by
      rw [h3]
      unfold lastL
      split
      · exact k3
      · rename_i x hx
        exact (List.pairwise_append.1 hR).2.2 x (List.mem_of_getLast? hx) r List.mem_cons_self
    rw [pall_snoc, lastL_snoc]
    obtain ⟨p, hp⟩ : ∃ p, pall (page0 d) K = p := ⟨_, rfl⟩
    rw [hp] at h1 h2 h3 hlt ⊢
    have hc : ¬(r.page ≠ p.id ∨ r.lsn ≤ p.lsn) := by
      rintro (h | h)
      · exact h (by rw [k2, h1])
      · omega
    unfold papply
    rw [if_neg hc, if_neg (by rw [k1]; decide), if_pos k1]
    split
    · rename_i h8
      refine ⟨h1, ?_, rfl⟩
      dsimp only
      rw [List.length_append, List.length_cons, List.length_take, List.length_drop]
      omega
    · rename_i h8
      refine ⟨h1, ?_, rfl⟩
      dsimp only
      omega
section
variable {ds : List Nat} {s : HSt}
theorem Fp.page (h : Fp ds s) (d : Nat) (y : Int) : (pall (page0 d) (ofL s.l d y)).id = d ∧ (pall (page0 d) (ofL s.l d y)).ents.length = min (ofL s.l d y).length 8 ∧ (pall (page0 d) (ofL s.l d y)).lsn = lastL (ofL s.l d y) := by
  refine pageP (ofL_rise (by rw [h.l]; exact recsP_rise ds) _ _) fun r hr => ?_
  obtain ⟨h1, h2, _⟩ := ofL_mem.1 hr
  rw [h.l] at h1
  obtain ⟨i, d', _, _, rfl⟩ := recsP_mem h1
  exact ⟨rfl, h2, by show (0 : Int) < (i : Int) + 1; omega⟩
end
/-- How many are there up to a number, of each of the five; and the last one's number. -/
def cntP (l : List Redo) (y : Int) (d : Nat) : Int := ((ofL l d y).length : Int)
def lstP (l : List Redo) (y : Int) (d : Nat) : Int := lastL (ofL l d y)
theorem ofP_snoc (l : List Redo) (r : Redo) (d y : Int) : ofL (l ++ [r]) d y = if r.page = d ∧ r.lsn ≤ y then ofL l d y ++ [r] else ofL l d y := by
  unfold ofL
  rw [List.filter_append]
  split
  · rename_i h
    rw [List.filter_cons_of_pos (by rw [Bool.and_eq_true, beq_iff_eq, decide_eq_true_eq]; exact h)]
    rfl
  · rename_i h
    rw [List.filter_cons_of_neg (by rw [Bool.and_eq_true, beq_iff_eq, decide_eq_true_eq]; exact h), List.filter_nil, List.append_nil]
theorem five_set {f g : Nat → Int} {d : Nat} (hd : d < 5) (h : ∀ i, i ≠ d → g i = f i) : ((List.range 5).map f).set d (g d) = (List.range 5).map g := by
  apply List.ext_getElem?
  intro i
  rw [List.getElem?_set]
  by_cases hi : d = i
  · subst hi
    rw [if_pos rfl, if_pos (by simpa using hd), List.getElem?_map, List.getElem?_range hd]
    rfl
  · rw [if_neg hi, List.getElem?_map, List.getElem?_map]
    by_cases h5 : i < 5
    · rw [List.getElem?_range h5]
      simp only [Option.map_some, h i (Ne.symm hi)]
    · rw [List.getElem?_eq_none (by simpa using h5)]
      rfl
theorem cnt_in {l : List Redo} {y : Int} {d i : Nat} (hy : (i : Int) + 1 ≤ y) (hd : d < 5) : ((List.range 5).map (cntP l y)).set d (cntP l y d + 1) = (List.range 5).map (cntP (l ++ [recP d i]) y) := by
  have e : cntP l y d + 1 = cntP (l ++ [recP d i]) y d := by
    unfold cntP
    rw [ofP_snoc, if_pos ⟨rfl, hy⟩, List.length_append, List.length_singleton, Int.natCast_add]
    rfl
  rw [e]
  refine five_set hd fun j hj => ?_
  unfold cntP
  rw [ofP_snoc, if_neg fun h => hj ?_]
  have h1 : (d : Int) = (j : Int) := h.1
  omega
theorem lst_in {l : List Redo} {y : Int} {d i : Nat} (hy : (i : Int) + 1 ≤ y) (hd : d < 5) : ((List.range 5).map (lstP l y)).set d ((i : Int) + 1) = (List.range 5).map (lstP (l ++ [recP d i]) y) := by
  have e : ((i : Int) + 1) = lstP (l ++ [recP d i]) y d := by
    unfold lstP
    rw [ofP_snoc, if_pos ⟨rfl, hy⟩, lastL_snoc]
    rfl
  rw [e]
  refine five_set hd fun j hj => ?_
  unfold lstP
  rw [ofP_snoc, if_neg fun h => hj ?_]
  have h1 : (d : Int) = (j : Int) := h.1
  omega
theorem of_out {l : List Redo} {y : Int} {d i : Nat} (hy : ¬ (i : Int) + 1 ≤ y) (j : Int) : ofL (l ++ [recP d i]) j y = ofL l j y := by
  rw [ofP_snoc, if_neg fun h => hy h.2]
/-- The pages that have one. -/
def haveP (l : List Redo) (y : Int) (k : Nat) : List Int := ((List.range k).filter fun d => decide (cntP l y d ≠ 0)).map fun (d : Nat) => (d : Int)
theorem haveP_snoc (l : List Redo) (y : Int) (k : Nat) : haveP l y (k + 1) = if cntP l y k = 0 then haveP l y k else haveP l y k ++ [(k : Int)] := by
  unfold haveP
  rw [List.range_succ, List.filter_append]
  split
  · rename_i h
    rw [List.filter_cons_of_neg (by simpa using h), List.filter_nil, List.append_nil]
  · rename_i h
    rw [List.filter_cons_of_pos (by simpa using h), List.filter_nil, List.map_append]
    rfl
theorem haveP_ids {ds : List Nat} {s : HSt} (h : Fp ds s) (y : Int) : onces (ascend (pagesL s.l y)) = haveP s.l y 5 := by
  obtain ⟨h1, h2⟩ := onces_is (ascend_le (pagesL s.l y))
  refine asc_ext _ _ h1 ?_ fun k => ?_
  · unfold haveP
    rw [List.pairwise_map]
    refine ((List.pairwise_lt_range (n := 5)).sublist List.filter_sublist).imp fun {a b} hab => ?_
    show (a : Int) < (b : Int)
    omega
  · rw [h2, ascend_mem, pagesL_mem]
    unfold haveP
    rw [List.mem_map]
    constructor
    · rintro ⟨r, hr, hy, rfl⟩
      have hr' := hr
      rw [h.l] at hr'
      obtain ⟨i, d, _, hd, rfl⟩ := recsP_mem hr'
      refine ⟨d, ?_, rfl⟩
      rw [List.mem_filter, List.mem_range, decide_eq_true_eq]
      refine ⟨h.five d (List.mem_of_getElem? hd), fun hc => ?_⟩
      have hm : recP d i ∈ ofL s.l (d : Int) y := ofL_mem.2 ⟨hr, rfl, hy⟩
      have hl := List.length_pos_of_mem hm
      unfold cntP at hc
      omega
    · rintro ⟨d, hd, rfl⟩
      rw [List.mem_filter, List.mem_range, decide_eq_true_eq] at hd
      have hne : ofL s.l (d : Int) y ≠ [] := fun hc => hd.2 (by unfold cntP; rw [hc]; rfl)
      obtain ⟨r, hr⟩ := List.exists_mem_of_ne_nil _ hne
      obtain ⟨h3, h4, h5⟩ := ofL_mem.1 hr
      exact ⟨r, h3, h5, h4⟩
end Go.Proofs.YtalidmlomfobdaaDoor
