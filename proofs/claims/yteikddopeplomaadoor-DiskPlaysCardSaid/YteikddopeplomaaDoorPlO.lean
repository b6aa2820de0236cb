/- Things that a disk is told, as they come in. -/
import Derived.Test.YteikddopeplomaaDoorInI
import Derived.Test.YteikddopeplomaaDoorMp
namespace Go.Proofs.YteikddopeplomaaDoor
open Go.RowKit

/-- A number in its bounds. -/
def kNum : Kd Int where
  sz := 1
  K := fun _ _ x cs => cs = [.int .i64 x] ∧ In64 x
  pos := by decide
  len := fun h => by rw [h.1]; rfl
  one := fun h u hu => by
    rw [h.1, List.mem_singleton] at hu
    subst hu
    rfl
  move := fun h _ => h
  mono := fun _ h => h
structure DoV where
  kind : Int
  n : Int
  bytes : List UInt8
  picks : List Int
def kDo : Kd DoV := (kNum.pair (kNum.pair (kBytes.pair (kSl kInt)))).iso fun d => (d.kind, d.n, d.bytes, d.picks)
theorem kDo_open {S : Nat → Prop} {w : World} {x : DoV} {cs : List Value} (h : kDo.K S w x cs) : ∃ v u, cs = [.int .i64 x.kind, .int .i64 x.n, v, u] ∧ In64 x.n ∧ Sl kByte S w v x.bytes ∧ Sl kInt S w u x.picks := by
  obtain ⟨c1, c2, rfl, ⟨h1, _⟩, c3, c4, rfl, ⟨h3, h3'⟩, c5, c6, rfl, ⟨v, h5, h6⟩, ⟨u, h7, h8⟩⟩ := h
  dsimp only at h1 h3 h5 h7
  subst h1
  subst h3
  subst h5
  subst h7
  exact ⟨v, u, rfl, h3', h6, h8⟩
theorem kDo_mk {S : Nat → Prop} {w : World} {x : DoV} {v u : Value} (hk : In64 x.kind) (hn : In64 x.n) (h0 : Sl kByte S w v x.bytes) (h1 : Sl kInt S w u x.picks) : kDo.K S w x [.int .i64 x.kind, .int .i64 x.n, v, u] :=
  ⟨[.int .i64 x.kind], _, rfl, ⟨rfl, hk⟩, [.int .i64 x.n], _, rfl, ⟨rfl, hn⟩, [v], [u], rfl, ⟨v, rfl, h0⟩, ⟨u, rfl, h1⟩⟩
theorem do_at {S : Nat → Prop} {w : World} {A : Option Addr} {n c : Nat} {xs : List DoV} (h : Sl kDo S w (.slice A n c) xs) {k : Nat} {x : DoV} (hi : xs[k]? = some x) :
    ∃ b o A0 n0 c0 A1 n1 c1, A = some ⟨b, o, none⟩ ∧ w.cell? ⟨b, o + k * 4, none⟩ = some (.int .i64 x.kind) ∧ w.cell? ⟨b, o + k * 4 + 1, none⟩ = some (.int .i64 x.n) ∧ w.cell? ⟨b, o + k * 4 + 2, none⟩ = some (.slice A0 n0 c0) ∧ w.cell? ⟨b, o + k * 4 + 3, none⟩ = some (.slice A1 n1 c1) ∧ In64 x.n ∧ Sl kByte S w (.slice A0 n0 c0) x.bytes ∧ Sl kInt S w (.slice A1 n1 c1) x.picks := by
  obtain ⟨A', c', he, _, _, hx⟩ := h
  injection he with ha _ _
  subst ha
  have hk : k < xs.length := (List.getElem?_eq_some_iff.1 hi).1
  obtain ⟨b, o, rfl, _, hr⟩ := hx (by omega)
  obtain ⟨cs, hc, hcell⟩ := hr k x hi
  obtain ⟨v, u, rfl, hn, h0, h1⟩ := kDo_open hc
  obtain ⟨A0, n0, c0, rfl, _⟩ := h0.open_
  obtain ⟨A1, n1, c1, rfl, _⟩ := h1.open_
  exact ⟨b, o, A0, n0, c0, A1, n1, c1, rfl, hcell 0 _ rfl, hcell 1 _ rfl, hcell 2 _ rfl, hcell 3 _ rfl, hn, h0, h1⟩

theorem opens_num {t : TypeId} (ht : Tryd.prog.underlying t = some (.int .i64)) : Opens kNum t := fun h => by
  obtain ⟨n, rfl, _, hw⟩ := DataW.trod_int ht h
  exact ⟨n, rfl, hw⟩
set_option maxRecDepth 100000 in
theorem topens_do : Opens kDo 73 := fun {H enc w fuel cs x} h => by
  obtain ⟨hl, n, hx⟩ := opens_fields Tryd.underlying73 h
  rw [show Tryd.prog.cellsOf 73 = 4 by kernel_rfl] at hl
  match cs, hl with
  | [a, b, c, d], _ =>
    obtain ⟨_, h0⟩ := hx 0 _ rfl
    obtain ⟨_, h1⟩ := hx 1 _ rfl
    obtain ⟨_, h2⟩ := hx 2 _ rfl
    obtain ⟨_, h3⟩ := hx 3 _ rfl
    obtain ⟨y0, e0, i0⟩ := opens_num (by kernel_rfl) h0
    obtain ⟨y1, e1, i1⟩ := opens_num (by kernel_rfl) h1
    obtain ⟨y2, v2, e2, s2⟩ := topens_bytes h2
    obtain ⟨y3, v3, e3, s3⟩ := topens_ints h3
    obtain rfl : a = .int .i64 y0 := List.head_eq_of_cons_eq (show [a] = [Value.int .i64 y0] from e0)
    obtain rfl : b = .int .i64 y1 := List.head_eq_of_cons_eq (show [b] = [Value.int .i64 y1] from e1)
    obtain rfl : c = v2 := List.head_eq_of_cons_eq (show [c] = [v2] from e2)
    obtain rfl : d = v3 := List.head_eq_of_cons_eq (show [d] = [v3] from e3)
    exact ⟨⟨y0, y1, y2, y3⟩, kDo_mk (x := ⟨y0, y1, y2, y3⟩) i0 i1 s2 s3⟩
theorem topens_dos : Opens (kSl kDo) 68 := opens_slice Tryd.underlying68 (by kernel_rfl) topens_do
end Go.Proofs.YteikddopeplomaaDoor
