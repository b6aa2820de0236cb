/- How many keys a map has; a map from which things are dropped. -/
import Derived.Test.YtppjpfgjophgkaaDoorDfP
namespace Go.Proofs.YtppjpfgjophgkaaDoor
open Go.RowKit Go.Maps Go.Sort

theorem GMap.keys {α : Type} {d : El α} {S : Nat → Prop} {w : World} {b n : Nat} {m : Int → Option α} (h : GMap d Tryd.prog 3 S w b m n) : ∃ ks : List Int, ks.length = n ∧ ks.Pairwise (· < ·) ∧ ∀ k, k ∈ ks ↔ In64 k ∧ (m k).isSome := by
  obtain ⟨D, h1, h2, h3⟩ := h
  have hi := int_keyed (P := Tryd.prog) Tryd.underlying3
  have hD := h1.tidy hi
  have hwf := intKeys_wf h1 Tryd.underlying3
  have hck := h1.canonK hi
  obtain ⟨es, rfl, hne⟩ := hD
  have hk : ∀ p ∈ es, ∃ x, p.1 = .int .i64 x := fun p hp => by
    obtain ⟨es', he, _, hks⟩ := hck
    injection he with he
    subst he
    obtain ⟨v, hv⟩ := hks p hp
    obtain ⟨x, _, hx, _⟩ := keyOf_i64 Tryd.underlying3 hv
    exact ⟨x, hx⟩
  have hmem : ∀ x, x ∈ intKeys (.map es) ↔ Maps.has (.map es) (kl x) = true := fun x => by
    rw [has_eq, List.any_eq_true]
    show x ∈ es.map (fun p => Go.intOf p.1) ↔ _
    rw [List.mem_map]
    constructor
    · rintro ⟨p, hp', rfl⟩
      obtain ⟨a, ha⟩ := hk p hp'
      exact ⟨p, hp', by rw [ha]; simp [Lit.sameKey, Go.intOf, kl]⟩
    · rintro ⟨p, hp', hs⟩
      obtain ⟨a, ha⟩ := hk p hp'
      rw [ha] at hs
      exact ⟨p, hp', by rw [ha]; simpa [Lit.sameKey, Go.intOf, kl] using hs⟩
  have hnd : (intKeys (DataW.map es)).Nodup := by
    show (es.map fun p => Go.intOf p.1).Nodup
    refine List.pairwise_map.2 (hne.imp_of_mem fun {p q} hp' hq' hne e => hne ?_)
    obtain ⟨a, ha⟩ := hk p hp'
    obtain ⟨b, hb⟩ := hk q hq'
    rw [ha, hb] at e ⊢
    exact congrArg _ e
  have hks : ((intKeys (DataW.map es)).mergeSort (fun x y => decide (x ≤ y))).Perm (intKeys (DataW.map es)) := List.mergeSort_perm _ _
  have hsort : ((intKeys (DataW.map es)).mergeSort (fun x y => decide (x ≤ y))).Pairwise (fun a b => a ≤ b) := by
    have := List.pairwise_mergeSort (le := fun x y : Int => decide (x ≤ y)) (fun a b c h1 h2 => by simp only [decide_eq_true_eq] at *; omega) (fun a b => by simp only [Bool.or_eq_true, decide_eq_true_eq]; omega) (intKeys (DataW.map es))
    exact this.imp fun {a b} h => by simpa using h
  refine ⟨(intKeys (DataW.map es)).mergeSort (fun x y => decide (x ≤ y)), ?_, ?_, fun k => ?_⟩
  · rw [List.length_mergeSort, ← h2]
    simp [intKeys, Maps.size]
  · have hnd2 : ((intKeys (DataW.map es)).mergeSort (fun x y => decide (x ≤ y))).Nodup := (hks.nodup_iff).2 hnd
    exact (hsort.and hnd2).imp fun {a b} h => by omega
  · rw [hks.mem_iff, hmem k]
    constructor
    · intro hh
      have hin : In64 k := hwf k ((hmem k).2 hh)
      refine ⟨hin, ?_⟩
      have h4 := h3 k hin
      cases hmk : m k with
      | none =>
        rw [hmk] at h4
        have h5 : Maps.has (.map es) (kl k) = false := h4
        rw [h5] at hh
        cases hh
      | some xs => rfl
    · rintro ⟨hin, hs⟩
      have h4 := h3 k hin
      obtain ⟨xs, hxs⟩ := Option.isSome_iff_exists.1 hs
      rw [hxs] at h4
      exact h4.1

theorem dropped_ent {S : Nat → Prop} {w : World} {es : List (Lit × DataW Value)} {L : Int} (hap : es.Pairwise (fun p q => p.1 ≠ q.1)) {k : Int} {o : Option Page} (h : GEnt elPage S w (.map es) k o) :
    GEnt elPage S w (Lib.deleteFuncD (dropD L) (.map es)) k (o.filter fun p => decide (L < p.lsn)) := by
  cases o with
  | none =>
    have h5 : Maps.has (.map es) (kl k) = false := h
    show (es.filter _).any _ = false
    rw [List.any_eq_false]
    intro p hp
    have := List.any_eq_false.1 (show es.any (fun p => p.1.sameKey (kl k)) = false from h5) p (List.mem_filter.1 hp).1
    simpa using this
  | some p =>
    obtain ⟨h5, v, h6, A, c, rfl, hs⟩ := h
    have h7 : (es.find? (fun p => p.1.sameKey (kl k))).isSome = true := by
      rw [List.find?_isSome]
      obtain ⟨q, hq, hq2⟩ := List.any_eq_true.1 (show es.any (fun p => p.1.sameKey (kl k)) = true from h5)
      exact ⟨q, hq, hq2⟩
    obtain ⟨q, hf⟩ := Option.isSome_iff_exists.1 h7
    have h8 := find_atKey (es := es) hf .nil
    rw [h6] at h8
    have hqm := List.mem_of_find?_eq_some hf
    have hqk := List.find?_some hf
    have hq2 : q.2 = .held (.agg #[.int .i64 p.id, .int .i64 p.lsn, .int .i64 p.level, .int .i64 p.next, .slice A p.ents.length c]) := h8.symm
    have huniq : ∀ z ∈ es, z.1.sameKey (kl k) = true → z.2 = .held (.agg #[.int .i64 p.id, .int .i64 p.lsn, .int .i64 p.level, .int .i64 p.next, .slice A p.ents.length c]) := by
      intro z hz hzk
      have e1 := WideAt.sameKey_eq hzk
      have e2 : (kl k, z.2) ∈ es := by rw [← e1]; exact hz
      exact (WideAt.atKey_mem .nil (show WideAt.IsKeyLit (kl k) from trivial) hap e2).symm.trans (h6 .nil)
    by_cases hL : L < p.lsn
    · rw [show (some p).filter (fun p => decide (L < p.lsn)) = some p by simp [Option.filter, hL]]
      have hin : (kl k, q.2) ∈ es.filter (fun p => !dropD L p.1 p.2) := List.mem_filter.2 ⟨by rw [← WideAt.sameKey_eq hqk]; exact hqm, by rw [hq2]; simp [dropD, lsnOf]; omega⟩
      refine ⟨List.any_eq_true.2 ⟨_, hin, WideAt.sameKey_self (show WideAt.IsKeyLit (kl k) from trivial)⟩, _, fun z => ?_, A, c, rfl, hs⟩
      rw [← hq2]
      exact WideAt.atKey_mem z (show WideAt.IsKeyLit (kl k) from trivial) (hap.filter _) hin
    · rw [show (some p).filter (fun p => decide (L < p.lsn)) = none by simp [Option.filter, hL]]
      show (es.filter _).any _ = false
      rw [List.any_eq_false]
      intro z hz hzk
      obtain ⟨hz1, hz2⟩ := List.mem_filter.1 hz
      rw [huniq z hz1 (by simpa using hzk)] at hz2
      simp [dropD, lsnOf] at hz2
      omega

/-- A pool's map from which what is not above L went. -/
theorem GMap.dropped {S : Nat → Prop} {w w' : World} {b n : Nat} {L : Int} {m : Int → Option Page} {D : DataW Value} (hown : w.ownsMap Tryd.prog 3 elH b n D) (h3 : ∀ k, In64 k → GEnt elPage S w D k (m k)) (ho : w'.ownsMap Tryd.prog 3 elH b n (Lib.deleteFuncD (dropD L) D)) (hf : Fr (fun x => x ≠ b) w w') (hS : ∀ x, S x → x ≠ b) :
    ∃ n', n' ≤ n ∧ GMap elPage Tryd.prog 3 S w' b (fun k => (m k).filter fun p => decide (L < p.lsn)) n' := by
  have K := int_keyed (P := Tryd.prog) Tryd.underlying3
  obtain ⟨es0, rfl, hap, _⟩ := hown.entries K
  exact ⟨_, ho.size_le, _, owns_exact ho, rfl, fun k hk => (dropped_ent hap (h3 k hk)).move hf fun x hx _ => hS x hx⟩

/-- Behind a Drop. -/
def PSt.dropped (s : PSt) (L : Int) (n : Nat) : PSt := { s with have_ := fun k => (s.have_ k).filter fun p => decide (L < p.lsn), nh := n }
set_option maxRecDepth 100000 in
set_option maxHeartbeats 1000000 in
theorem pool_drop {G : Nat → Prop} {w : World} {B l t : Nat} {s : PSt} (h : Pk G w B l t s) (L : Int) (hnh : s.nh ≤ 1000000) :
    Calls Tryd.prog 23 #[.pointer (some ⟨B, 0, none⟩), .int .i64 L] w fun e w' => ∃ n' : Nat, e = .returned (.int .i64 ((s.nh : Int) - (n' : Int))) ∧ Pk G w' B l t (s.dropped L n') ∧ Fr (Off B l t) w w' := by
  have B0 := heap_alloc_new w (.cells #[.int .i64 L] 2)
  have F0 := (Fr.refl All w).alloc (.cells #[.int .i64 L] 2)
  obtain ⟨W, hW⟩ : ∃ W, w.alloc (.cells #[.int .i64 L] 2) = W := ⟨_, rfl⟩
  rw [hW] at B0 F0
  have H := Lib.hid (h.all F0)
  have hl1 := H.out.hv.len Tryd.underlying60 3
  obtain ⟨b0, bz⟩ := blk1 B0
  obtain ⟨D, h1, h2, h3⟩ := H.out.hv
  have hlt := h.hv.lt
  have hdf := dfunc_walk h1 h3 b0 (show w.heap.size ≠ l by omega)
  have q0 := H.out.c0
  have HD := Lib.hid hdf
  have H1 := Lib.hid h1
  have H3 := Lib.hid h3
  clear hdf h1 h2 h3 h
  go_enter Tryd.func23, Tryd.ntmps23
  go_wp2_with fail
  refine HD.out.mono ?_
  rintro e w3 ⟨rfl, ho, hg⟩
  have f3 : Fr (fun x => x ≠ l) W w3 := (Fr.of_grown hg).mono fun x hx e => hx (Option.some.inj e)
  obtain ⟨n', hn', m3⟩ := GMap.dropped H1.out H3.out ho f3 (fun x hx => hx.1.2.1)
  have D3 : Pk G w3 B l t (s.dropped L n') := H.out.stays f3 H.out.n1 m3 (H.out.tv.free.move f3 (Ne.symm H.out.n3) (fun x (hx : Nowhere x) _ => hx.elim)).free
  have hl3 := D3.hv.len Tryd.underlying60 3
  have q3 := D3.c0
  have hw : IntKind.i64.wrap ((s.nh : Int) - (n' : Int)) = (s.nh : Int) - (n' : Int) := IntWalk.i64_in _ (by omega)
  have HP := Lib.hid D3
  have hnn : (s.dropped L n').nh = n' := rfl
  rw [hnn] at hl3
  clear ho hg m3 D3 hl1 b0 bz q0
  go_wp2_with fail
  go_ret
  exact ⟨n', rfl, HP.out, ((F0.mono fun _ _ => trivial).trans f3).mono fun x (hx : Off B l t x) => hx.2.1⟩
end Go.Proofs.YtppjpfgjophgkaaDoor
