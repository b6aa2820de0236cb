/- What comes in, of any of the program's plain types, reads as Lean data. -/
import Derived.Test.YteclgcnndjcmmaaDoorChecked
import Derived.Test.YteclgcnndjcmmaaDoorD
import Derived.OpenShut
import Derived.Deep.Slices
namespace Go.Proofs.YteclgcnndjcmmaaDoor
open Go.RowKit Go.ChangeShapes Go.Deep

theorem In.add_at {w : World} {x : Addr} {v : Value} (h : w.cell? (x.add 0) = some v) (i : Nat) : x.add i = ⟨x.block, x.off + i, none⟩ := by
  have hs : x.spot = none := by
    unfold World.cell? Addr.add at h
    simp only [if_true] at h
    split at h
    · split at h
      · cases h
      · rename_i hh
        simpa using hh
    · cases h
  obtain ⟨b, o, s⟩ := x
  dsimp only at hs
  subst hs
  unfold Addr.add
  split
  · rename_i hi
    subst hi
    rfl
  · rfl

/-- Whatever is read at the type t, says a value of the kind. -/
def Opens {α : Type} (d : Kd α) (t : TypeId) : Prop :=
  ∀ {H : Type} {enc : TypeId × Value → H} {w : World} {fuel : Nat} {cs : List Value} {x : DataW H × List MemPlace}, DataW.trod enc Tryd.prog w 0 (fun _ => true) true fuel t cs = some x → ∃ y, d.K All w y cs

theorem opens_int {t : TypeId} (ht : Tryd.prog.underlying t = some (.int .i64)) : Opens kInt t := fun h => by
  obtain ⟨n, rfl, _⟩ := DataW.trod_int ht h
  exact ⟨n, rfl⟩
theorem opens_bool {t : TypeId} (ht : Tryd.prog.underlying t = some .bool) : Opens kBool t := fun h => by
  obtain ⟨n, rfl, _⟩ := DataW.trod_bool ht h
  exact ⟨n, rfl⟩
theorem opens_byte {t : TypeId} (ht : Tryd.prog.underlying t = some (.int .u8)) : Opens kByte t := fun h => by
  obtain ⟨n, rfl, _, hw⟩ := DataW.trod_int ht h
  have hb := bounds_u8 hw
  refine ⟨UInt8.ofNat n.toNat, ?_⟩
  have : ((UInt8.ofNat n.toNat).toNat : Int) = n := by
    rw [UInt8.toNat_ofNat_of_lt' (by simp only [UInt8.size]; omega)]
    omega
  show [Value.int .u8 n] = [.int .u8 ((UInt8.ofNat n.toNat).toNat : Int)]
  rw [this]

theorem cells_get {w : World} {a : Addr} {n : Nat} {cs : List Value} (h : w.cells? 0 a n = some cs) : cs.length = n ∧ ∀ j u, cs[j]? = some u → w.cell? (a.add j) = some u := by
  unfold World.cells? at h
  rw [if_pos (Nat.zero_le _)] at h
  have hl : cs.length = n := by simpa using mapM_some_length h
  refine ⟨hl, fun j u hu => ?_⟩
  have hj : j < n := by
    have := (List.getElem?_eq_some_iff.1 hu).1
    omega
  rw [← hu]
  exact mapM_some_get h j j (by simp [hj])

theorem opens_slice {α : Type} {d : Kd α} {t e : TypeId} (ht : Tryd.prog.underlying t = some (.slice e)) (he : Tryd.prog.cellsOf e = d.sz) (hd : Opens d e) : Opens (kSl d) t := fun {H enc w fuel cs x} h => by
  rcases open_slice ht h with ⟨rfl, rfl⟩ | ⟨a, len, cap, m, n, D, Pl, rfl, hb, hl, hm, hmm, rfl, hx⟩
  · exact ⟨[], _, rfl, Sl.nil_ _ _ _⟩
  rw [he] at hx
  simp only [if_true] at hmm
  subst hmm
  rcases Nat.eq_zero_or_pos len with rfl | hp
  · exact ⟨[], _, rfl, Sl.empty_ _ _ _ _ _ hm⟩
  have hx2 : ∀ i, i < len → ∃ y cs', w.cells? 0 (a.add (i * d.sz)) d.sz = some cs' ∧ d.K All w y cs' := fun i hi => by
    obtain ⟨cs', h1, h2⟩ := hx i (by omega)
    obtain ⟨y, hy⟩ := hd h2
    exact ⟨y, cs', h1, hy⟩
  obtain ⟨y0, cs0, _⟩ := hx2 0 hp
  have hne : Nonempty α := ⟨y0⟩
  let f : Nat → α := fun i => if h : i < len then Classical.choose (hx2 i h) else y0
  have hf : ∀ i, i < len → ∃ cs', w.cells? 0 (a.add (i * d.sz)) d.sz = some cs' ∧ d.K All w (f i) cs' := fun i hi => by
    have := Classical.choose_spec (hx2 i hi)
    show ∃ cs', _ ∧ d.K All w (if h : i < len then Classical.choose (hx2 i h) else y0) cs'
    rw [dif_pos hi]
    exact this
  have hlen : ((List.range len).map f).length = len := by simp
  refine ⟨(List.range len).map f, _, rfl, some a, m, by rw [hlen], by omega, hm, fun _ => ?_⟩
  have h00 : ∃ v, w.cell? (a.add 0) = some v := by
    obtain ⟨cs', h1, hk⟩ := hf 0 hp
    obtain ⟨hl', hg⟩ := cells_get h1
    have hp' := d.pos
    refine ⟨cs'[0]'(by omega), ?_⟩
    have := hg 0 (cs'[0]'(by omega)) (List.getElem?_eq_getElem _)
    rw [add_add, Nat.zero_mul] at this
    exact this
  obtain ⟨v, hv⟩ := h00
  have hadd := In.add_at hv
  refine ⟨a.block, a.off, ?_, trivial, fun i y hi => ?_⟩
  · have := hadd 0
    rw [show a.add 0 = a from rfl] at this
    rw [this]
  · rw [List.getElem?_map] at hi
    have hil : i < len := by
      rcases Nat.lt_or_ge i len with h | h
      · exact h
      · rw [List.getElem?_eq_none (by simpa using h)] at hi
        cases hi
    rw [List.getElem?_range hil] at hi
    obtain rfl : f i = y := by simpa using hi
    obtain ⟨cs', h1, hk⟩ := hf i hil
    obtain ⟨hl', hg⟩ := cells_get h1
    refine ⟨cs', hk, fun j u hu => ?_⟩
    have := hg j u hu
    rwa [add_add, hadd, ← Nat.add_assoc] at this

theorem opens_bytes {t e : TypeId} (ht : Tryd.prog.underlying t = some (.slice e)) (he : Tryd.prog.underlying e = some (.int .u8)) (hc : Tryd.prog.cellsOf e = 1) : Opens kBytes t := opens_slice ht hc (opens_byte he)

/-- A struct's fields, each read by itself. -/
theorem opens_fields {t : TypeId} {fs : Array Field} (ht : Tryd.prog.underlying t = some (.struct fs)) {H : Type} {enc : TypeId × Value → H} {w : World} {fuel : Nat} {cs : List Value} {x : DataW H × List MemPlace}
    (h : DataW.trod enc Tryd.prog w 0 (fun _ => true) true fuel t cs = some x) :
    cs.length = Tryd.prog.cellsOf t ∧ ∃ n, ∀ (i : Nat) (f : Field), fs[i]? = some f → ∃ y, DataW.trod enc Tryd.prog w 0 (fun _ => true) true n f.type ((cs.drop f.offset).take (Tryd.prog.cellsOf f.type)) = some y := by
  obtain ⟨xs, n, _, _, hl, hn, hx⟩ := DataW.trod_struct ht h
  refine ⟨hl, n, fun i f hf => ?_⟩
  have hi : i < xs.length := by
    rw [hn]
    exact (Array.getElem?_eq_some_iff.1 hf).1
  exact ⟨xs[i], (hx i f hf).trans (List.getElem?_eq_getElem hi)⟩

theorem tint : Tryd.prog.underlying 3 = some (.int .i64) := Tryd.underlying3
theorem topens_bytes : Opens kBytes 34 := opens_bytes Tryd.underlying34 Tryd.underlying5 (by kernel_rfl)

theorem one_of {α : Type} {d : Kd α} {w : World} {y : α} {c : Value} (h : d.K All w y [c]) : d.K All w y [c] := h

set_option maxRecDepth 100000 in
theorem topens_redo : Opens kRedo 36 := fun {H enc w fuel cs x} h => by
  obtain ⟨hl, n, hx⟩ := opens_fields Tryd.underlying36 h
  rw [show Tryd.prog.cellsOf 36 = 10 by kernel_rfl] at hl
  match cs, hl with
  | [c0, c1, c2, c3, c4, c5, c6, c7, c8, c9], _ =>
    obtain ⟨_, h0⟩ := hx 0 _ rfl
    obtain ⟨_, h1⟩ := hx 1 _ rfl
    obtain ⟨_, h2⟩ := hx 2 _ rfl
    obtain ⟨_, h3⟩ := hx 3 _ rfl
    obtain ⟨_, h4⟩ := hx 4 _ rfl
    obtain ⟨_, h5⟩ := hx 5 _ rfl
    obtain ⟨_, h6⟩ := hx 6 _ rfl
    obtain ⟨_, h7⟩ := hx 7 _ rfl
    obtain ⟨_, h8⟩ := hx 8 _ rfl
    obtain ⟨_, h9⟩ := hx 9 _ rfl
    obtain ⟨y0, e0⟩ := opens_int (by kernel_rfl) h0
    obtain ⟨y1, e1⟩ := opens_int (by kernel_rfl) h1
    obtain ⟨y2, e2⟩ := opens_int (by kernel_rfl) h2
    obtain ⟨y3, e3⟩ := opens_int (by kernel_rfl) h3
    obtain ⟨y4, e4⟩ := opens_int (by kernel_rfl) h4
    obtain ⟨y5, e5⟩ := opens_int (by kernel_rfl) h5
    obtain ⟨y6, e6⟩ := opens_int (by kernel_rfl) h6
    obtain ⟨y7, v7, e7, s7⟩ := topens_bytes h7
    obtain ⟨y8, v8, e8, s8⟩ := topens_bytes h8
    obtain ⟨y9, e9⟩ := opens_bool (by kernel_rfl) h9
    obtain rfl : c0 = .int .i64 y0 := List.head_eq_of_cons_eq (show [c0] = [Value.int .i64 y0] from e0)
    obtain rfl : c1 = .int .i64 y1 := List.head_eq_of_cons_eq (show [c1] = [Value.int .i64 y1] from e1)
    obtain rfl : c2 = .int .i64 y2 := List.head_eq_of_cons_eq (show [c2] = [Value.int .i64 y2] from e2)
    obtain rfl : c3 = .int .i64 y3 := List.head_eq_of_cons_eq (show [c3] = [Value.int .i64 y3] from e3)
    obtain rfl : c4 = .int .i64 y4 := List.head_eq_of_cons_eq (show [c4] = [Value.int .i64 y4] from e4)
    obtain rfl : c5 = .int .i64 y5 := List.head_eq_of_cons_eq (show [c5] = [Value.int .i64 y5] from e5)
    obtain rfl : c6 = .int .i64 y6 := List.head_eq_of_cons_eq (show [c6] = [Value.int .i64 y6] from e6)
    obtain rfl : c7 = v7 := List.head_eq_of_cons_eq (show [c7] = [v7] from e7)
    obtain rfl : c8 = v8 := List.head_eq_of_cons_eq (show [c8] = [v8] from e8)
    obtain rfl : c9 = .bool y9 := List.head_eq_of_cons_eq (show [c9] = [Value.bool y9] from e9)
    exact ⟨⟨y0, y1, y2, y3, y4, y5, y6, y7, y8, y9⟩, kRedo_mk s7 s8⟩

theorem topens_redos : Opens (kSl kRedo) 54 := opens_slice Tryd.underlying54 (by kernel_rfl) topens_redo

/-- From an argument to its reading. -/
theorem arg_sl {α : Type} {d : Kd α} {t : TypeId} (ho : Opens (kSl d) t) {H : Type} {enc : TypeId × Value → H} {w : World} {A : Option Addr} {n c : Nat} {x : DataW H} {p : List MemPlace}
    (h : DataW.Trod enc Tryd.prog w 0 (fun _ => true) true t (.slice A n c) x p) : ∃ xs, Sl d All w (.slice A n c) xs := by
  obtain ⟨fuel, hf⟩ := h
  obtain ⟨y, v, e, s⟩ := ho hf
  obtain rfl : Value.slice A n c = v := List.head_eq_of_cons_eq (show [Value.slice A n c] = [v] from e)
  exact ⟨y, s⟩
theorem arg_agg {α : Type} {d : Kd α} {t : TypeId} (ho : Opens d t) {H : Type} {enc : TypeId × Value → H} {w : World} {cs : Array Value} {x : DataW H} {p : List MemPlace}
    (h : DataW.Trod enc Tryd.prog w 0 (fun _ => true) true t (.agg cs) x p) : ∃ y, d.K All w y cs.toList := by
  obtain ⟨fuel, hf⟩ := h
  exact ho hf
theorem arg_page {w : World} {p : Page} {cs : Array Value} (h : kPage.K All w p cs.toList) : ∃ v, cs = #[.int .i64 p.id, .int .i64 p.lsn, .int .i64 p.level, .int .i64 p.next, v] ∧ Sl kEnt All w v p.ents := by
  obtain ⟨v, e, s⟩ := kPage_open h
  exact ⟨v, Array.toList_inj.1 e, s⟩
theorem arg_redo {w : World} {r : Redo} {cs : Array Value} (h : kRedo.K All w r cs.toList) :
    ∃ v0 v1, cs = #[.int .i64 r.lsn, .int .i64 r.back, .int .i64 r.epoch, .int .i64 r.group, .int .i64 r.page, .int .i64 r.kind, .int .i64 r.slot, v0, v1, .bool r.last] ∧ Sl kByte All w v0 r.key ∧ Sl kByte All w v1 r.val := by
  obtain ⟨v0, v1, e, s⟩ := kRedo_open h
  exact ⟨v0, v1, Array.toList_inj.1 e, s⟩
end Go.Proofs.YteclgcnndjcmmaaDoor
