/- A region whose last operation waits for all others: the others first, then that one. A region whose last three operations wait, each for all ahead of it. -/
import Derived.Test.YteclgcnndjcmmaaDoorProg
import Derived.KernelRfl
import Derived.OrdersHeld
import Derived.Deep.RegionHeld3
namespace Go.Proofs.YteclgcnndjcmmaaDoor

/-- What is asked of the region without its last operation. -/
def LastPost (P : Program) (o : Oper) (Q : Exit → Act → World → Prop) : Exit → Act → World → Prop
  | .normal, a, w => wpList P #[o] Q [o] a w
  | e, a, w => Q e a w

/-- Nothing is guarded, each operation waits for earlier ones alone, and the last waits for all. -/
def lastB (l : List Oper) (o : Oper) : Bool :=
  o.guard.isNone && l.all (·.guard.isNone) && (List.range l.length).all (fun k => ((l[k]?).map (·.after.all fun e => decide (e.on < k))).getD true) &&
  (List.range l.length).all fun j => (o.after.any fun e => Region.binds .any e && e.on == j) || (List.range l.length).any fun k => (o.after.any fun e => Region.binds .any e && e.on == k) && ((l[k]?).map (·.after.any fun e => Region.binds .any e && e.on == j)).getD false

/-- What has come up waited for what has come up. -/
def ClosedL (l : List Oper) (listed : Array Bool) : Prop := ∀ (k : Nat) ok, l[k]? = some ok → listed.getD k false = true → ∀ e ∈ ok.after, Region.binds .any e = true → listed.getD e.on false = true
theorem ClosedL.set {l : List Oper} {listed : Array Bool} (h : ClosedL l listed) {i : Nat} (hi : i ∈ Region.ready .any l.toArray listed) : ClosedL l (listed.setIfInBounds i true) := by
  intro k ok hk hl e he hb
  by_cases hik : i = k
  · subst hik
    obtain ⟨_, oi, hoi, hall⟩ := mem_ready.1 hi
    have : oi = ok := by
      have h1 : l[i]? = some oi := by simpa using hoi
      rw [hk] at h1
      exact (Option.some.inj h1).symm
    subst this
    exact getD_set_true (hall e he hb)
  · rw [getD_set_ne false hik] at hl
    exact getD_set_true (h k ok hk hl e he hb)

theorem getD_push (listed : Array Bool) (k : Nat) : (listed.push false).getD k false = listed.getD k false := by
  simp only [Array.getD_eq_getD_getElem?, Array.getElem?_push]
  split
  · subst_vars; simp
  · rfl

theorem Oper.wp_last {P : Program} {o o' : Oper} {Q : Exit → Act → World → Prop} {K : Act → World → Prop} {a : Act} {w : World} (h : o'.wp P a w K (LastPost P o Q)) : o'.wp P a w K Q := by
  unfold Oper.wp at *
  generalize (execOp a.eval o').run P w = r at *
  cases r with
  | ok n w' => cases n <;> exact h
  | halt x w' => cases x <;> exact h

section
variable {P : Program} {l : List Oper} {o : Oper} {Q : Exit → Act → World → Prop}

theorem last_ready (hB : lastB l o = true) {listed : Array Bool} (hs : listed.size = l.length) (hcl : ClosedL l listed) {i : Nat} (hi : i ∈ Region.ready .any (l ++ [o]).toArray (listed.push false)) :
    (i < l.length ∧ i ∈ Region.ready .any l.toArray listed) ∨ (i = l.length ∧ Region.ready .any l.toArray listed = []) := by
  obtain ⟨h0, oi, ho, hall⟩ := mem_ready.1 hi
  have hlt : i < l.length + 1 := by
    have := (Array.getElem?_eq_some_iff.1 ho).1
    simpa using this
  by_cases hil : i < l.length
  · left
    refine ⟨hil, mem_ready.2 ⟨?_, oi, ?_, ?_⟩⟩
    · simpa [Array.getD_eq_getD_getElem?, Array.getElem?_push, hs, Nat.ne_of_lt hil] using h0
    · simpa [List.getElem?_append_left hil] using ho
    · intro e he hb
      have := hall e he hb
      rwa [getD_push] at this
  · right
    have hin : i = l.length := by omega
    refine ⟨hin, ?_⟩
    subst hin
    have hoo : oi = o := by simpa using ho.symm
    subst hoo
    unfold lastB at hB
    simp only [Bool.and_eq_true, List.all_eq_true, List.mem_range] at hB
    refine List.eq_nil_iff_forall_not_mem.2 fun j hj => ?_
    obtain ⟨hu, oj, hoj, _⟩ := mem_ready.1 hj
    have hjl : j < l.length := by
      have := (Array.getElem?_eq_some_iff.1 hoj).1
      simpa using this
    have h4 := hB.2 j hjl
    have hO : ∀ k, (oi.after.any fun e => Region.binds .any e && e.on == k) = true → listed.getD k false = true := by
      intro k hk
      rw [Array.any_eq_true'] at hk
      obtain ⟨e, he, h5⟩ := hk
      simp only [Bool.and_eq_true, beq_iff_eq] at h5
      have h6 := hall e he h5.1
      rwa [getD_push, h5.2] at h6
    have h6 : listed.getD j false = true := by
      rw [Bool.or_eq_true] at h4
      rcases h4 with h4 | h4
      · exact hO j h4
      · rw [List.any_eq_true] at h4
        obtain ⟨k, hk, h5⟩ := h4
        rw [Bool.and_eq_true] at h5
        rw [List.mem_range] at hk
        rw [List.getElem?_eq_getElem hk] at h5
        simp only [Option.map_some, Option.getD_some] at h5
        have h7 := h5.2
        rw [Array.any_eq_true'] at h7
        obtain ⟨e, he, h8⟩ := h7
        simp only [Bool.and_eq_true, beq_iff_eq] at h8
        rw [← h8.2]
        exact hcl k l[k] (List.getElem?_eq_getElem hk) (hO k h5.1) e he h8.1
    simp only [Array.getD_eq_getD_getElem?] at h6 hu
    rw [Array.getElem?_eq_getElem (by omega)] at h6 hu
    simp only [Option.getD_some] at h6 hu
    rw [h6] at hu
    cases hu

theorem last_all (hB : lastB l o = true) {listed : Array Bool} (hs : listed.size = l.length) (h : Region.ready .any l.toArray listed = []) : ∀ k, k < l.length → listed.getD k false = true := by
  intro k
  induction k using Nat.strongRecOn with
  | _ k ih =>
    intro hk
    by_cases hc : listed.getD k false = true
    · exact hc
    · exfalso
      have hm : k ∈ Region.ready .any l.toArray listed := by
        refine mem_ready.2 ⟨?_, l[k], by simp [hk], ?_⟩
        · simp only [Array.getD_eq_getD_getElem?] at hc ⊢
          rw [Array.getElem?_eq_getElem (by omega)] at hc ⊢
          simpa using hc
        · intro e he _
          unfold lastB at hB
          simp only [Bool.and_eq_true, List.all_eq_true, List.mem_range] at hB
          have h3 := hB.1.2 k hk
          rw [List.getElem?_eq_getElem hk] at h3
          simp only [Option.map_some, Option.getD_some] at h3
          rw [Array.all_eq_true'] at h3
          have h4 := h3 e he
          simp only [decide_eq_true_eq] at h4
          exact ih e.on h4 (by omega)
      rw [h] at hm
      cases hm

theorem last_ready_n (hB : lastB l o = true) {listed : Array Bool} (hs : listed.size = l.length) (h : Region.ready .any l.toArray listed = []) (hr : Region.ready .any (l ++ [o]).toArray (listed.push false) = []) (hlow : (o.after.all fun e => decide (e.on < l.length)) = true) : False := by
  have hm : l.length ∈ Region.ready .any (l ++ [o]).toArray (listed.push false) := by
    refine mem_ready.2 ⟨?_, o, by simp, ?_⟩
    · simp [Array.getD_eq_getD_getElem?, hs, Array.getElem_push]
    · intro e he _
      rw [getD_push]
      rw [Array.all_eq_true'] at hlow
      exact last_all hB hs h _ (by simpa using hlow e he)
  rw [hr] at hm
  cases hm

theorem wpAny_last (hB : lastB l o = true) (hlow : (o.after.all fun e => decide (e.on < l.length)) = true) : ∀ (fuel : Nat) (listed : Array Bool) (a : Act) (w : World), listed.size = l.length → ClosedL l listed →
    wpAny P .any l.toArray (LastPost P o Q) fuel listed a w → wpAny P .any (l ++ [o]).toArray Q (fuel + 1) (listed.push false) a w := by
  have hG : ∀ (i : Nat) oi, (l ++ [o])[i]? = some oi → oi.guard = none := by
    intro i oi hi
    unfold lastB at hB
    simp only [Bool.and_eq_true, List.all_eq_true, Option.isNone_iff_eq_none] at hB
    have := List.mem_of_getElem? hi
    rcases List.mem_append.1 this with h | h
    · exact hB.1.1.2 _ h
    · simp only [List.mem_singleton] at h
      subst h
      exact hB.1.1.1
  have hend : ∀ (fuel : Nat) (listed : Array Bool) (a : Act) (w : World), listed.size = l.length → ClosedL l listed → Region.ready .any l.toArray listed = [] → LastPost P o Q .normal a w → ∀ i ∈ Region.ready .any (l ++ [o]).toArray (listed.push false), wpOp P (l ++ [o]).toArray Q i (wpAny P .any (l ++ [o]).toArray Q fuel ((listed.push false).setIfInBounds i true)) a w := by
    intro fuel listed a w hs hcl hr hQ i hi
    rcases last_ready hB hs hcl hi with ⟨_, h⟩ | ⟨h, _⟩
    · rw [hr] at h; cases h
    · subst h
      have hdone : ∀ f a w, Q .normal a w → wpAny P .any (l ++ [o]).toArray Q f ((listed.push false).setIfInBounds l.length true) a w := by
        have hnil : Region.ready .any (l ++ [o]).toArray ((listed.push false).setIfInBounds l.length true) = [] := by
          refine List.eq_nil_iff_forall_not_mem.2 fun j hj => ?_
          obtain ⟨h0, oj, hoj, _⟩ := mem_ready.1 hj
          have hjl : j < l.length + 1 := by
            have := (Array.getElem?_eq_some_iff.1 hoj).1
            simpa using this
          by_cases hjn : j = l.length
          · subst hjn
            simp [Array.getD_eq_getD_getElem?, hs] at h0
          · rw [getD_set_ne true (Ne.symm hjn)] at h0
            have h1 := last_all hB hs hr j (by omega)
            simp only [Array.getD_eq_getD_getElem?] at h0 h1
            rw [Array.getElem?_push_lt (by omega)] at h0
            rw [Array.getElem?_eq_getElem (by omega)] at h1
            simp only [Option.getD_some] at h0 h1
            rw [h1] at h0
            cases h0
        intro f a w hq
        cases f with
        | zero => exact ⟨hnil, hq⟩
        | succ f => exact ⟨fun _ => hq, by rw [hnil]; simp⟩
      have hg : o.guard = none := hG l.length o (by simp)
      have hQ' : wpList P #[o] Q [o] a w := hQ
      unfold wpList at hQ'
      unfold wpOp
      simp only [List.getElem?_toArray, List.getElem?_append_right (Nat.le_refl _), Nat.sub_self, List.getElem?_cons_zero, Region.wanted, hg, if_true] at hQ' ⊢
      exact hQ'.imp (Oper.wp_mono fun a w h => hdone fuel a w h) id
  intro fuel
  induction fuel with
  | zero =>
    intro listed a w hs hcl h
    exact ⟨fun hr => (last_ready_n hB hs h.1 hr hlow).elim, hend 0 listed a w hs hcl h.1 h.2⟩
  | succ fuel ih =>
    intro listed a w hs hcl h
    by_cases hr : Region.ready .any l.toArray listed = []
    · exact ⟨fun hr' => (last_ready_n hB hs hr hr' hlow).elim, hend _ listed a w hs hcl hr (h.1 hr)⟩
    · refine ⟨fun hr' => ?_, fun i hi => ?_⟩
      · exfalso
        obtain ⟨i, hi⟩ := List.exists_mem_of_ne_nil _ hr
        obtain ⟨h0, oi, hoi, hall⟩ := mem_ready.1 hi
        have hil : i < l.length := by
          have := (Array.getElem?_eq_some_iff.1 hoi).1
          simpa using this
        have hm : i ∈ Region.ready .any (l ++ [o]).toArray (listed.push false) := by
          refine mem_ready.2 ⟨?_, oi, ?_, ?_⟩
          · simpa [Array.getD_eq_getD_getElem?, Array.getElem?_push, hs, Nat.ne_of_lt hil] using h0
          · simpa [List.getElem?_append_left hil] using hoi
          · intro e he hb
            rw [getD_push]
            exact hall e he hb
        rw [hr'] at hm
        cases hm
      · rcases last_ready hB hs hcl hi with ⟨hil, hi'⟩ | ⟨_, h'⟩
        · have h1 := h.2 i hi'
          obtain ⟨_, oi, hoi, _⟩ := mem_ready.1 hi'
          have hoi' : (l ++ [o]).toArray[i]? = some oi := by simpa [List.getElem?_append_left hil] using hoi
          have hg : oi.guard = none := hG i oi (by simpa using hoi')
          unfold wpOp at h1 ⊢
          simp only [hoi, hoi', Region.wanted, hg, if_true] at h1 ⊢
          refine h1.imp (fun h => Oper.wp_mono (fun a' w' h2 => ?_) (Oper.wp_last h)) id
          have h3 := ih (listed.setIfInBounds i true) a' w' (by simpa using hs) (hcl.set hi') h2
          have h4 : (listed.setIfInBounds i true).push false = (listed.push false).setIfInBounds i true := by
            apply Array.ext_getElem?
            intro k
            by_cases hk : k = listed.size
            · subst hk
              simp [hs, Nat.ne_of_lt hil, Array.getElem_push]
            · simp only [Array.getElem?_push, Array.getElem?_setIfInBounds, Array.size_setIfInBounds, Array.size_push, hk, if_false]
              by_cases hik : i = k
              · subst hik
                simp [hs, hil, Nat.lt_succ_of_lt hil]
              · simp [hik]
          rwa [h4] at h3
        · exact absurd h' hr

/-- A region that draws, its last operation behind all others. -/
theorem wp_region_last {S : World → Prop} {L : List Oper} (n : Nat) {o : Oper} {id : Nat} {a : Act} {w : World} (hm : P.follows .mixedOrders = true) (hL : L = L.take n ++ [o]) (hB : (lastB (L.take n) o && o.after.all fun e => decide (e.on < (L.take n).length)) = true)
    (hS : S w.drew) (h : S w.drew → wpAnyH P .any (L.take n).toArray (LastPost P o Q) S (L.take n).length (Array.replicate (L.take n).length false) a w.drew) : (Code.region id L.toArray true).wp P Q a w := by
  rw [Bool.and_eq_true] at hB
  refine wp_region_any hm ?_
  have h1 := wpAny_last (Q := Q) hB.1 hB.2 _ _ a w.drew (by simp) (fun k ok hk hl => by
    have hkl : k < (L.take n).length := (List.getElem?_eq_some_iff.1 hk).1
    rw [Array.getD_eq_getD_getElem?, Array.getElem?_replicate, if_pos hkl] at hl
    cases hl) (wpAny_of_held _ _ _ _ (h hS))
  rw [← hL] at h1
  have h2 : (L.take n).length + 1 = L.toArray.size := by
    have := congrArg List.length hL
    simpa using this.symm
  have h3 : (Array.replicate (L.take n).length false).push false = Array.replicate L.toArray.size false := by
    rw [← h2, Array.replicate_succ]
  rw [h2, h3] at h1
  exact h1
end
end Go.Proofs.YteclgcnndjcmmaaDoor
namespace Go.Proofs.YteclgcnndjcmmaaDoor

theorem wp_region_last3 {P : Program} {Q : Exit → Act → World → Prop} {S : World → Prop} {L : List Oper} (n : Nat) {o1 o2 o3 : Oper} {id : Nat} {a : Act} {w : World} (hm : P.follows .mixedOrders = true) (hL : L = L.take n ++ [o1] ++ [o2] ++ [o3])
    (h1 : (lastB (L.take n) o1 && o1.after.all fun e => decide (e.on < (L.take n).length)) = true)
    (h2 : (lastB (L.take n ++ [o1]) o2 && o2.after.all fun e => decide (e.on < (L.take n ++ [o1]).length)) = true)
    (h3 : (lastB (L.take n ++ [o1] ++ [o2]) o3 && o3.after.all fun e => decide (e.on < (L.take n ++ [o1] ++ [o2]).length)) = true)
    (hS : S w.drew) (h : S w.drew → wpAnyH P .any (L.take n).toArray (LastPost P o1 (LastPost P o2 (LastPost P o3 Q))) S (L.take n).length (Array.replicate (L.take n).length false) a w.drew) : (Code.region id L.toArray true).wp P Q a w := by
  rw [Bool.and_eq_true] at h1 h2 h3
  refine wp_region_any hm ?_
  have hcl : ∀ (l : List Oper) (k : Nat) ok, l[k]? = some ok → (Array.replicate l.length false).getD k false = true → ∀ e ∈ ok.after, Region.binds .any e = true → (Array.replicate l.length false).getD e.on false = true := fun l k ok hk hl => by
    have hkl : k < l.length := (List.getElem?_eq_some_iff.1 hk).1
    rw [Array.getD_eq_getD_getElem?, Array.getElem?_replicate, if_pos hkl] at hl
    cases hl
  have k1 := wpAny_last (Q := LastPost P o2 (LastPost P o3 Q)) h1.1 h1.2 _ _ a w.drew (by simp) (hcl _) (wpAny_of_held _ _ _ _ (h hS))
  have hpush : ∀ (l : List Oper) (o : Oper), (Array.replicate l.length false).push false = Array.replicate (l ++ [o]).length false := fun l o => by
    rw [List.length_append, List.length_singleton, Array.replicate_succ]
  rw [hpush _ o1, show (L.take n).length + 1 = (L.take n ++ [o1]).length by simp] at k1
  have k2 := wpAny_last (Q := LastPost P o3 Q) h2.1 h2.2 _ _ a w.drew (by simp) (hcl _) k1
  rw [hpush _ o2, show (L.take n ++ [o1]).length + 1 = (L.take n ++ [o1] ++ [o2]).length by simp] at k2
  have k3 := wpAny_last (Q := Q) h3.1 h3.2 _ _ a w.drew (by simp) (hcl _) k2
  rw [hpush _ o3, show (L.take n ++ [o1] ++ [o2]).length + 1 = (L.take n ++ [o1] ++ [o2] ++ [o3]).length by simp, ← hL] at k3
  simpa using k3
end Go.Proofs.YteclgcnndjcmmaaDoor
