/- The sorted keys of a map of marks. -/
import Derived.Test.YtppjpfgjophgkaaDoorMapLay2
import Derived.Test.YtppjpfgjophgkaaDoorMg
import Derived.Test.YtppjpfgjophgkaaDoorMapLay5
import Derived.Shelf.SlIterI.Nil
import Derived.Shelf.SlIterI.Keys
import Derived.Shelf.SlIterI.Sorted
import Derived.Shelf.SortM.Plain
import Derived.Shelf.SortM.SortNone
namespace Go.Proofs.YtppjpfgjophgkaaDoor
open Go.RowKit Go.Maps Go.Shelf Go.Sort

theorem sortsI (m : Nat) : AnyZI.SortsIn Tryd.prog sortedIRen Fence.wide m :=
  ⟨fun blk off cap ss W hH hblk hsz => callsIn_wide.2 (AnyM.slices_Sort_int sortILays blk off cap ss W hH hblk hsz),
   fun p cap W => callsIn_wide.2 (AnyM.slices_Sort_int_none sortILays p cap W)⟩
theorem reps_plain {α : Type} {enc : α → Value} {h1 : ∀ x, (enc x).oneCell' = true} {S : Nat → Prop} {w : World} : ∀ xs : List α, Reps (Kd.plain enc h1) S w xs (xs.map enc)
  | [] => rfl
  | x :: xs => ⟨[enc x], xs.map enc, rfl, rfl, reps_plain xs⟩
theorem keysb_call (b : Nat) (w : World) : Calls Tryd.prog 43 #[.map (some b)] w fun e w' => e = .returned (.func (.func 59) #[] #[.pointer (some ⟨w.heap.size, 0, none⟩)]) ∧ w' = w.alloc (.cells #[.map (some b)] 61) :=
  callsIn_wide.1 (AnyZI.keys_in keysBLays Fence.wide 5 trivial rfl (some b) w)

set_option maxHeartbeats 1000000 in
theorem sortedb_call {H : Type} {R : Value → Option (DataW H × List MemPlace)} {b nn Bm : Nat} {D0 : DataW H} {w : World} (hown : w.ownsMap Tryd.prog 3 R b nn D0) (hm : w.cell? ⟨Bm, 0, none⟩ = some (.map (some b))) (hmax : Maps.size D0 ≤ 1000000) :
    Calls Tryd.prog 42 #[.func (.func 59) #[] #[.pointer (some ⟨Bm, 0, none⟩)]] w fun e w' => ∃ (v : Value) (ss : List Int), e = .returned v ∧ ss.Perm (intKeys D0) ∧
      w'.ownsRow w.heap.size 3 1 v ss.length ((ss.mergeSort (fun x y => decide (x ≤ y))).map encZ) ∧ Fr All w w' := by
  have hseq : SeqGives Fence.wide 2 Tryd.prog 59 #[.pointer (some ⟨Bm, 0, none⟩)] encZ (fun ss => ss.Perm (intKeys D0)) (Maps.size D0) w :=
    AnyZI.keys_gives (ρ := keysBRen) { keysBLays with } Fence.wide _ trivial rfl (by omega) Bm b nn D0 _ (World.block_lt_of_cell? w ⟨Bm, 0, none⟩ hm) hm hown
  have cS := AnyZI.sorted_in sortedILays Fence.wide 5 trivial trivial trivial trivial rfl (by omega) (sortsI _) (enters_of Tryd.func58 (by kernel_rfl) rfl) 59 #[.pointer (some ⟨Bm, 0, none⟩)] trivial (enters_of Tryd.func59 (by kernel_rfl) rfl) _ _ (by simp only [maxLen]; omega) (by omega) _ hseq
  refine (callsIn_wide.1 cS).mono ?_
  rintro e w' ⟨v, ss, rfl, hS, hrow, _, hb⟩
  exact ⟨v, ss, rfl, hS, hrow, Fr.of_below_all hb⟩

theorem sortedb_map {S : Nat → Prop} {w : World} {b Bm n : Nat} {α : Type} {d : El α} {m : Int → Option α} (h : GMap d Tryd.prog 3 S w b m n) (hm : w.cell? ⟨Bm, 0, none⟩ = some (.map (some b))) (hn : n ≤ 1000000) :
    Calls Tryd.prog 42 #[.func (.func 59) #[] #[.pointer (some ⟨Bm, 0, none⟩)]] w fun e w' => ∃ (A : Option Addr) (c : Nat) (ks : List Int), e = .returned (.slice A n c) ∧ ks.length = n ∧ ks.Pairwise (· < ·) ∧ (∀ k, k ∈ ks ↔ In64 k ∧ (m k).isSome) ∧
      Own kInt 3 w.heap.size All w' (.slice A n c) ks ∧ Fr All w w' := by
  obtain ⟨D, h1, h2, h3⟩ := h
  refine (sortedb_call h1 hm (by omega)).mono ?_
  rintro e w' ⟨v, ss, rfl, hp, hrow, hf⟩
  have hi := int_keyed (P := Tryd.prog) Tryd.underlying3
  have hD := h1.tidy hi
  have hwf := intKeys_wf h1 Tryd.underlying3
  have hck := h1.canonK hi
  obtain ⟨es, rfl, hne⟩ := hD
  have hk : ∀ p ∈ es, ∃ x, p.1 = .int .i64 x := fun p hp => by
    obtain ⟨es', he, _, hks⟩ := hck
    injection he with he
    subst he
    obtain ⟨v, hv⟩ := hks p hp
    obtain ⟨x, _, hx, _⟩ := keyOf_i64 Tryd.underlying3 hv
    exact ⟨x, hx⟩
  have hmem : ∀ x, x ∈ intKeys (.map es) ↔ Maps.has (.map es) (kl x) = true := fun x => by
    rw [has_eq, List.any_eq_true]
    show x ∈ es.map (fun p => Go.intOf p.1) ↔ _
    rw [List.mem_map]
    constructor
    · rintro ⟨p, hp', rfl⟩
      obtain ⟨a, ha⟩ := hk p hp'
      exact ⟨p, hp', by rw [ha]; simp [Lit.sameKey, Go.intOf, kl]⟩
    · rintro ⟨p, hp', hs⟩
      obtain ⟨a, ha⟩ := hk p hp'
      rw [ha] at hs
      exact ⟨p, hp', by rw [ha]; simpa [Lit.sameKey, Go.intOf, kl] using hs⟩
  have hnd : (intKeys (DataW.map es)).Nodup := by
    show (es.map fun p => Go.intOf p.1).Nodup
    refine List.pairwise_map.2 (hne.imp_of_mem fun {p q} hp' hq' hne e => hne ?_)
    obtain ⟨a, ha⟩ := hk p hp'
    obtain ⟨b, hb⟩ := hk q hq'
    rw [ha, hb] at e ⊢
    exact congrArg _ e
  have hlen : ss.length = n := by
    rw [hp.length_eq, ← h2]
    simp [intKeys, Maps.size]
  have hks : (ss.mergeSort (fun x y => decide (x ≤ y))).Perm (intKeys (DataW.map es)) := (List.mergeSort_perm ss _).trans hp
  have hsort : (ss.mergeSort (fun x y => decide (x ≤ y))).Pairwise (fun a b => a ≤ b) := by
    have := List.pairwise_mergeSort (le := fun x y : Int => decide (x ≤ y)) (fun a b c h1 h2 => by simp only [decide_eq_true_eq] at *; omega) (fun a b => by simp only [Bool.or_eq_true, decide_eq_true_eq]; omega) ss
    exact this.imp fun {a b} h => by simpa using h
  have hkl : (ss.mergeSort (fun x y => decide (x ≤ y))).length = n := by rw [List.length_mergeSort, hlen]
  have ho : Own kInt 3 w.heap.size All w' v (ss.mergeSort (fun x y => decide (x ≤ y))) := by
    refine ⟨_, ?_, reps_plain _⟩
    rw [List.length_mergeSort]
    exact hrow
  obtain ⟨A, c, rfl⟩ := ho.length
  rw [hkl] at ho
  refine ⟨A, c, _, by rw [hkl], hkl, ?_, fun k => ?_, ho, hf⟩
  · have hnd2 : (ss.mergeSort (fun x y => decide (x ≤ y))).Nodup := (hks.nodup_iff).2 hnd
    exact (hsort.and hnd2).imp fun {a b} h => by omega
  · rw [hks.mem_iff, hmem k]
    constructor
    · intro hh
      have hin : In64 k := hwf k ((hmem k).2 hh)
      refine ⟨hin, ?_⟩
      have h4 := h3 k hin
      cases hmk : m k with
      | none =>
        rw [hmk] at h4
        have h5 : Maps.has (.map es) (kl k) = false := h4
        rw [h5] at hh
        cases hh
      | some xs => rfl
    · rintro ⟨hin, hs⟩
      have h4 := h3 k hin
      obtain ⟨xs, hxs⟩ := Option.isSome_iff_exists.1 hs
      rw [hxs] at h4
      exact h4.1

end Go.Proofs.YtppjpfgjophgkaaDoor
