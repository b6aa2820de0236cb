/- bytes.Compare, and the place of a key in a page. -/
import Derived.Test.YtblogahililddaaLaw
import Derived.Test.YtblogahililddaaRef
import Derived.Lib.Bytealg
namespace Go.Proofs.Ytblogahililddaa
open Go.RowKit

theorem run_loadBytes {P : Program} {w : World} {b : Nat} : ∀ (xs : List UInt8) (o : Nat) (acc : List UInt8), (∀ i x, xs[i]? = some x → w.cell? ⟨b, o + i, none⟩ = some (.int .u8 (x.toNat : Int))) →
    (Extern.Bytes.loadBytes ⟨b, o, none⟩ xs.length (ByteArray.mk acc.toArray)).run P w = .ok (ByteArray.mk (acc ++ xs).toArray) w
  | [], o, acc, _ => by
    rw [List.append_nil]
    rfl
  | x :: xs, o, acc, h => by
    have h0 := h 0 x rfl
    have ih := run_loadBytes (P := P) xs (o + 1) (acc ++ [x]) (fun i y hi => by
      have := h (i + 1) y (by simpa using hi)
      rwa [show o + (i + 1) = o + 1 + i by omega] at this)
    rw [Nat.add_zero] at h0
    simp only [List.length_cons, Extern.Bytes.loadBytes]
    simp only [Sem.run_bind, run_load, h0, Result.andThen]
    have e1 : (ByteArray.mk acc.toArray).push ((x.toNat : Int).toNat.toUInt8) = ByteArray.mk (acc ++ [x]).toArray := by
      simp [ByteArray.push]
    rw [e1, List.append_assoc] at *
    exact ih

theorem run_bytesOf {P : Program} {S : Nat → Prop} {w : World} {v : Value} {xs : List UInt8} (h : Sl kByte S w v xs) : (Extern.Bytes.bytesOf v).run P w = .ok (ByteArray.mk xs.toArray) w := by
  obtain ⟨A, c, rfl, hc, hm, hx⟩ := h
  by_cases h0 : 0 < xs.length
  · obtain ⟨b, o, rfl, _, hr⟩ := hx h0
    have h1 := run_loadBytes (P := P) (w := w) (b := b) xs o [] (fun i x hi => by
      obtain ⟨cs, hk, hcell⟩ := hr i x hi
      have hk' : cs = [.int .u8 (x.toNat : Int)] := hk
      subst hk'
      have := hcell 0 _ rfl
      rwa [show kByte.sz = 1 from rfl, Nat.mul_one, Nat.add_zero] at this)
    rw [List.nil_append] at h1
    exact h1
  · have hn : xs = [] := List.eq_nil_of_length_eq_zero (by omega)
    subst hn
    cases A <;> rfl

theorem run_compare {P : Program} {S T : Nat → Prop} {w : World} {v u : Value} {xs ys : List UInt8} (h : Sl kByte S w v xs) (k : Sl kByte T w u ys) :
    (Extern.BytealgCompare.compare #[v, u]).run P w = .ok (.int .i64 (Lib.compareBytes xs ys)) w := by
  change Sem.run P (do pure (goInt (Extern.BytealgCompare.cmp (← Extern.Bytes.bytesOf v) (← Extern.Bytes.bytesOf u)))) w = _
  simp only [Sem.run_bind, run_bytesOf h, run_bytesOf k, Result.andThen, Sem.run_pure]
  rw [Lib.cmp_eq]
  rfl

theorem bytes_compare {S T : Nat → Prop} {w : World} {v u : Value} {xs ys : List UInt8} (h : Sl kByte S w v xs) (k : Sl kByte T w u ys) :
    Calls Try.prog 28 #[v, u] w fun e w' => e = .returned (.int .i64 (Lib.compareBytes xs ys)) ∧ w' = w := by
  have hc := run_compare (P := Try.prog) h k
  obtain ⟨A, n, c, rfl, _⟩ := h.open_
  obtain ⟨B, m, d, rfl, _⟩ := k.open_
  have hcall : (callFunc 35 #[.slice A n c, .slice B m d]).run Try.prog w = .ok (.value (.int .i64 (Lib.compareBytes xs ys))) w := by
    rw [run_callFunc_extern Try.func35 (by kernel_rfl) (by kernel_rfl) (by kernel_rfl) (e := Extern.BytealgCompare.compare) (by kernel_rfl), hc]
    rfl
  clear hc
  go_enter Try.func28, Try.ntmps28
  go_wp2_with fail
  go_ret
  exact ⟨rfl, rfl⟩

/-- The place of the first entry whose key is not ahead, and whether it is that. -/
def findIx (key : List UInt8) (xs : List Ent) : Nat := xs.findIdx fun e => decide (0 ≤ Lib.compareBytes e.key key)
def findIs (key : List UInt8) (xs : List Ent) : Bool := match xs[findIx key xs]? with | some e => Lib.compareBytes e.key key == 0 | none => false

theorem findIx_at {key : List UInt8} {xs : List Ent} {j : Nat} {x : Ent} (hj : xs[j]? = some x) (hb : ∀ i y, i < j → xs[i]? = some y → Lib.compareBytes y.key key < 0) (hx : 0 ≤ Lib.compareBytes x.key key) : findIx key xs = j := by
  obtain ⟨hl, he⟩ := List.getElem?_eq_some_iff.1 hj
  unfold findIx
  rw [List.findIdx_eq hl]
  refine ⟨by rw [he]; simpa using hx, fun i hi => ?_⟩
  have := hb i xs[i] hi (List.getElem?_eq_getElem (by omega))
  simpa using this
theorem findIx_end {key : List UInt8} {xs : List Ent} (hb : ∀ i y, i < xs.length → xs[i]? = some y → Lib.compareBytes y.key key < 0) : findIx key xs = xs.length := by
  unfold findIx
  rw [List.findIdx_eq_length]
  intro e he
  obtain ⟨i, hi⟩ := List.mem_iff_getElem?.1 he
  have := hb i e (List.getElem?_eq_some_iff.1 hi).1 hi
  simpa using this

set_option maxHeartbeats 1000000 in
theorem page_find {p : Page} {v kv : Value} {key : List UInt8} {S T : Nat → Prop} {w : World} (h : Sl kEnt S w v p.ents) (hk : Sl kByte T w kv key) :
    Calls Try.prog 20 #[.agg #[.int .i64 p.id, .int .i64 p.lsn, .int .i64 p.level, .int .i64 p.next, v], kv] w fun e w' => e = .returned (.tuple #[.int .i64 (findIx key p.ents : Nat), .bool (findIs key p.ents)]) ∧ Fr All w w' := by
  obtain ⟨A, n, c, rfl, en, hn⟩ := h.open_
  obtain ⟨K, m, d, rfl, _⟩ := hk.open_
  go_enter Try.func20, Try.ntmps20
  have B := heap_alloc_new w (.cells #[.int .i64 p.id, .int .i64 p.lsn, .int .i64 p.level, .int .i64 p.next, .slice A n c] 26)
  have F0 := (Fr.refl All w).alloc (.cells #[.int .i64 p.id, .int .i64 p.lsn, .int .i64 p.level, .int .i64 p.next, .slice A n c] 26)
  have hml : maxLen = 9223372036854775807 := rfl
  go_wp2_with fail
  generalize w.alloc (.cells #[.int .i64 p.id, .int .i64 p.lsn, .int .i64 p.level, .int .i64 p.next, .slice A n c] 26) = w0 at *
  go_loopw [12] (fun i wr => ∃ j : Nat, j ≤ n ∧ i = .int .i64 j ∧ Fr All w0 wr ∧ Hid (∀ i y, i < j → p.ents[i]? = some y → Lib.compareBytes y.key key < 0)) (fun i _ => n - (intOf i).toNat)
  case atStart => exact ⟨0, Nat.zero_le _, rfl, Fr.refl _ _, (fun i y hi => absurd hi (Nat.not_lt_zero _) : ∀ i y, i < 0 → p.ents[i]? = some y → Lib.compareBytes y.key key < 0)⟩
  case round =>
    obtain ⟨j, hj, rfl, HF, HB⟩ := hrel
    by_cases hlt : j < n
    · obtain ⟨x, hx, xm⟩ := get_of (l := p.ents) (k := j) (by omega)
      have HS := (h.all F0).all HF
      have HK := (hk.all F0).all HF
      obtain ⟨b, o, A0, n0, c0, A1, n1, c1, rfl, x0, x1, k0, k1⟩ := ent_at HS hx
      have Hx := Lib.hid hx
      have b0 : (0 : Int) ≤ (j : Int) := by omega
      have b1 : (j : Int) < (n : Int) := by omega
      have hw1 : IntKind.i64.wrap ((j : Int) + 1) = (j : Int) + 1 := IntWalk.i64_in _ (by omega)
      clear hx xm
      go_wp2_with fail
      refine (bytes_compare (k0.all ((Fr.refl All wr).alloc _)) (HK.all ((Fr.refl All wr).alloc _))).mono ?_
      rintro e _ ⟨rfl, rfl⟩
      by_cases hc : 0 ≤ Lib.compareBytes x.key key
      · have hc' : decide (0 ≤ Lib.compareBytes x.key key) = true := decide_eq_true hc
        have hix := findIx_at Hx.out HB.out hc
        have his : findIs key p.ents = (Lib.compareBytes x.key key == 0) := by unfold findIs; rw [hix, Hx.out]
        have Hix := Lib.hid hix
        have His := Lib.hid his
        clear hix his
        go_wp2_with fail
        go_ret2
        exact ⟨by rw [Hix.out, His.out]; rfl, (F0.trans HF).alloc _⟩
      · have hc' : decide (0 ≤ Lib.compareBytes x.key key) = false := decide_eq_false hc
        go_wp2_with fail
        go_roundw
        case rel => 
          refine ⟨j + 1, by omega, by go_num, HF.alloc _, (fun i y hi hy => ?_ : ∀ i y, i < j + 1 → p.ents[i]? = some y → Lib.compareBytes y.key key < 0)⟩
          by_cases hij : i = j
          · subst hij
            have h1 := Hx.out
            rw [hy] at h1
            rw [Option.some.inj h1]
            omega
          · exact HB.out i y (by omega) hy
        case measure => simp [intOf]; omega
    · obtain rfl : j = n := by omega
      have hix := findIx_end (key := key) (xs := p.ents) (fun i y hi hy => HB.out i y (by omega) hy)
      have his : findIs key p.ents = false := by unfold findIs; rw [hix, List.getElem?_eq_none (Nat.le_refl _)]
      obtain ⟨p0, p1, p2, p3, p4, pz⟩ := blk5 ((HF.block w.heap.size (blk_lt B) trivial).trans B)
      rw [en] at hix
      have Hix := Lib.hid hix
      have His := Lib.hid his
      clear hix his
      go_wp2_with fail
      go_ret2
      exact ⟨by rw [Hix.out, His.out]; rfl, F0.trans HF⟩
end Go.Proofs.Ytblogahililddaa
