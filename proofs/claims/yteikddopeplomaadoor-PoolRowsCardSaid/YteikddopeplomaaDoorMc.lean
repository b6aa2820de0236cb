/- The library's calls on maps: maps.Keys, slices.Sorted, maps.Copy, maps.Clone. -/
import Derived.Test.YteikddopeplomaaDoorMapLay
import Derived.Test.YteikddopeplomaaDoorMp
import Derived.Test.YteikddopeplomaaDoorD
import Derived.Shelf.SlIterI.Nil
import Derived.Shelf.SlIterI.Keys
import Derived.Shelf.SlIterI.Sorted
import Derived.Shelf.SortM.Plain
import Derived.Shelf.SortM.SortNone
import Derived.Shelf.SlMaps.Copy
import Derived.Shelf.SlMaps.Clone
namespace Go.Proofs.YteikddopeplomaaDoor
open Go.RowKit Go.Maps Go.Shelf Go.Sort

theorem keys_call (b : Nat) (w : World) : Calls Tryd.prog 72 #[.map (some b)] w fun e w' => e = .returned (.func (.func 91) #[] #[.pointer (some ⟨w.heap.size, 0, none⟩)]) ∧ w' = w.alloc (.cells #[.map (some b)] 103) :=
  callsIn_wide.1 (AnyZI.keys_in keysMLays Fence.wide 5 trivial rfl (some b) w)

theorem sortsI (m : Nat) : AnyZI.SortsIn Tryd.prog sortedIRen Fence.wide m :=
  ⟨fun blk off cap ss W hH hblk hsz => callsIn_wide.2 (AnyM.slices_Sort_int sortILays blk off cap ss W hH hblk hsz),
   fun p cap W => callsIn_wide.2 (AnyM.slices_Sort_int_none sortILays p cap W)⟩

set_option maxHeartbeats 1000000 in
theorem sorted_call {H : Type} {R : Value → Option (DataW H × List MemPlace)} {b nn Bm : Nat} {D0 : DataW H} {w : World} (hown : w.ownsMap Tryd.prog 3 R b nn D0) (hm : w.cell? ⟨Bm, 0, none⟩ = some (.map (some b))) (hmax : Maps.size D0 ≤ 1000000) :
    Calls Tryd.prog 67 #[.func (.func 91) #[] #[.pointer (some ⟨Bm, 0, none⟩)]] w fun e w' => ∃ (v : Value) (ss : List Int), e = .returned v ∧ ss.Perm (intKeys D0) ∧
      w'.ownsRow w.heap.size 3 1 v ss.length ((ss.mergeSort (fun x y => decide (x ≤ y))).map encZ) ∧ Fr All w w' := by
  have hseq : SeqGives Fence.wide 2 Tryd.prog 91 #[.pointer (some ⟨Bm, 0, none⟩)] encZ (fun ss => ss.Perm (intKeys D0)) (Maps.size D0) w :=
    AnyZI.keys_gives (ρ := keysMRen) { keysMLays with } Fence.wide _ trivial rfl (by omega) Bm b nn D0 _ (World.block_lt_of_cell? w ⟨Bm, 0, none⟩ hm) hm hown
  have cS := AnyZI.sorted_in sortedILays Fence.wide 5 trivial trivial trivial trivial rfl (by omega) (sortsI _) (enters_of Tryd.func89 (by kernel_rfl) rfl) 91 #[.pointer (some ⟨Bm, 0, none⟩)] trivial (enters_of Tryd.func91 (by kernel_rfl) rfl) _ _ (by simp only [maxLen]; omega) (by omega) _ hseq
  refine (callsIn_wide.1 cS).mono ?_
  rintro e w' ⟨v, ss, rfl, hS, hrow, _, hb⟩
  exact ⟨v, ss, rfl, hS, hrow, Fr.of_below_all hb⟩

theorem reps_plain {α : Type} {enc : α → Value} {h1 : ∀ x, (enc x).oneCell' = true} {S : Nat → Prop} {w : World} : ∀ xs : List α, Reps (Kd.plain enc h1) S w xs (xs.map enc)
  | [] => rfl
  | x :: xs => ⟨[enc x], xs.map enc, rfl, rfl, reps_plain xs⟩

theorem sorted_map {S : Nat → Prop} {w : World} {b Bm n : Nat} {m : Int → Option (List UInt8)} (h : MapIs Tryd.prog 3 S w b m n) (hm : w.cell? ⟨Bm, 0, none⟩ = some (.map (some b))) (hn : n ≤ 1000000) :
    Calls Tryd.prog 67 #[.func (.func 91) #[] #[.pointer (some ⟨Bm, 0, none⟩)]] w fun e w' => ∃ (A : Option Addr) (c : Nat) (ks : List Int), e = .returned (.slice A n c) ∧ ks.length = n ∧ ks.Pairwise (· < ·) ∧ (∀ k, k ∈ ks ↔ In64 k ∧ (m k).isSome) ∧
      Own kInt 3 w.heap.size All w' (.slice A n c) ks ∧ Fr All w w' := by
  obtain ⟨D, h1, h2, h3⟩ := h
  refine (sorted_call h1 hm (by omega)).mono ?_
  rintro e w' ⟨v, ss, rfl, hp, hrow, hf⟩
  have hi := int_keyed (P := Tryd.prog) Tryd.underlying3
  have hD := h1.tidy hi
  have hwf := intKeys_wf h1 Tryd.underlying3
  have hck := h1.canonK hi
  obtain ⟨es, rfl, hne⟩ := hD
  have hk : ∀ p ∈ es, ∃ x, p.1 = .int .i64 x := fun p hp => by
    obtain ⟨es', he, _, hks⟩ := hck
    injection he with he
    subst he
    obtain ⟨v, hv⟩ := hks p hp
    obtain ⟨x, _, hx, _⟩ := keyOf_i64 Tryd.underlying3 hv
    exact ⟨x, hx⟩
  have hmem : ∀ x, x ∈ intKeys (.map es) ↔ Maps.has (.map es) (kl x) = true := fun x => by
    rw [has_eq, List.any_eq_true]
    show x ∈ es.map (fun p => Go.intOf p.1) ↔ _
    rw [List.mem_map]
    constructor
    · rintro ⟨p, hp', rfl⟩
      obtain ⟨a, ha⟩ := hk p hp'
      exact ⟨p, hp', by rw [ha]; simp [Lit.sameKey, Go.intOf, kl]⟩
    · rintro ⟨p, hp', hs⟩
      obtain ⟨a, ha⟩ := hk p hp'
      rw [ha] at hs
      exact ⟨p, hp', by rw [ha]; simpa [Lit.sameKey, Go.intOf, kl] using hs⟩
  have hnd : (intKeys (DataW.map es)).Nodup := by
    show (es.map fun p => Go.intOf p.1).Nodup
    refine List.pairwise_map.2 (hne.imp_of_mem fun {p q} hp' hq' hne e => hne ?_)
    obtain ⟨a, ha⟩ := hk p hp'
    obtain ⟨b, hb⟩ := hk q hq'
    rw [ha, hb] at e ⊢
    exact congrArg _ e
  have hlen : ss.length = n := by
    rw [hp.length_eq, ← h2]
    simp [intKeys, Maps.size]
  have hks : (ss.mergeSort (fun x y => decide (x ≤ y))).Perm (intKeys (DataW.map es)) := (List.mergeSort_perm ss _).trans hp
  have hsort : (ss.mergeSort (fun x y => decide (x ≤ y))).Pairwise (fun a b => a ≤ b) := by
    have := List.pairwise_mergeSort (le := fun x y : Int => decide (x ≤ y)) (fun a b c h1 h2 => by simp only [decide_eq_true_eq] at *; omega) (fun a b => by simp only [Bool.or_eq_true, decide_eq_true_eq]; omega) ss
    exact this.imp fun {a b} h => by simpa using h
  have hkl : (ss.mergeSort (fun x y => decide (x ≤ y))).length = n := by rw [List.length_mergeSort, hlen]
  have ho : Own kInt 3 w.heap.size All w' v (ss.mergeSort (fun x y => decide (x ≤ y))) := by
    refine ⟨_, ?_, reps_plain _⟩
    rw [List.length_mergeSort]
    exact hrow
  obtain ⟨A, c, rfl⟩ := ho.length
  rw [hkl] at ho
  refine ⟨A, c, _, by rw [hkl], hkl, ?_, fun k => ?_, ho, hf⟩
  · have hnd2 : (ss.mergeSort (fun x y => decide (x ≤ y))).Nodup := (hks.nodup_iff).2 hnd
    exact (hsort.and hnd2).imp fun {a b} h => by omega
  · rw [hks.mem_iff, hmem k]
    constructor
    · intro hh
      have hin : In64 k := hwf k ((hmem k).2 hh)
      refine ⟨hin, ?_⟩
      have h4 := h3 k hin
      cases hmk : m k with
      | none =>
        rw [hmk] at h4
        have h5 : Maps.has (.map es) (kl k) = false := h4
        rw [h5] at hh
        cases hh
      | some xs => rfl
    · rintro ⟨hin, hs⟩
      have h4 := h3 k hin
      obtain ⟨xs, hxs⟩ := Option.isSome_iff_exists.1 hs
      rw [hxs] at h4
      exact h4.1

theorem copy_call {S : Nat → Prop} {w : World} {bd bs nd ns : Nat} {md ms : Int → Option (List UInt8)} (hd : MapIs Tryd.prog 3 S w bd md nd) (hs : MapIs Tryd.prog 3 S w bs ms ns) (hne : bd ≠ bs) (hS : ∀ x, S x → x ≠ bd) (hn : nd + ns ≤ 1000000) :
    Calls Tryd.prog 71 #[.map (some bd), .map (some bs)] w fun e w' => e = .returned (.tuple #[]) ∧ (∃ n', n' ≤ nd + ns ∧ MapIs Tryd.prog 3 S w' bd (fun k => ms k <|> md k) n') ∧ MapIs Tryd.prog 3 S w' bs ms ns ∧ Fr (fun x => x ≠ bd) w w' := by
  obtain ⟨Dd, d1, d2, d3⟩ := hd
  obtain ⟨Ds, s1, s2, s3⟩ := hs
  have hi := int_keyed (P := Tryd.prog) Tryd.underlying3
  refine (AnyX.maps_Copy copyMLays hi elH bd bs nd ns Dd Ds w d1 s1 hne (by simp only [maxLen]; omega)).mono ?_
  rintro e w' ⟨rfl, ho, ho2, hg⟩
  have hf : Fr (fun x => x ≠ bd) w w' := (Fr.of_grown hg).mono fun x hx e => hx (Option.some.inj e)
  refine ⟨rfl, ⟨_, by have := ho.size_le; omega, _, owns_exact ho, rfl, fun k hk => ?_⟩, ⟨Ds, ho2, s2, fun k hk => (s3 k hk).move hf fun x hx _ => hS x hx⟩, hf⟩
  exact (mergeD_entry hi.one (s1.canonK hi) d1.isMap (d3 k hk) (s3 k hk)).move hf fun x hx _ => hS x hx

theorem mclone_call {S : Nat → Prop} {w : World} {b n : Nat} {m : Int → Option (List UInt8)} (h : MapIs Tryd.prog 3 S w b m n) :
    Calls Tryd.prog 73 #[.map (some b)] w fun e w' => e = .returned (.map (some w.heap.size)) ∧ MapIs Tryd.prog 3 S w' w.heap.size m n ∧ Fr All w w' := by
  obtain ⟨D, h1, h2, h3⟩ := h
  refine (AnyW.maps_Clone_owns cloneMLays 3 elH b n D w h1).mono ?_
  rintro e w' ⟨rfl, ho, _, hb⟩
  have hf := Fr.of_below_all hb
  exact ⟨rfl, ⟨D, ho, h2, fun k hk => (h3 k hk).move hf fun _ _ _ => trivial⟩, hf⟩
end Go.Proofs.YteikddopeplomaaDoor
