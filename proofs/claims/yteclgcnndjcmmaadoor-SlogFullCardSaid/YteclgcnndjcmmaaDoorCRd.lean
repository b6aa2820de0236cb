/- A disk abides the turn of a block with no bytes in it. A call of the log, as plain Lean: its bytes. No spans, as bytes, and read. A call, read from its bytes. -/
import Derived.Test.YteclgcnndjcmmaaDoorDkL
import Derived.Test.YteclgcnndjcmmaaDoorRBytes
import Derived.Test.YteclgcnndjcmmaaDoorBackLaw
import Derived.Test.YteclgcnndjcmmaaDoorHCut
import Derived.Test.YteclgcnndjcmmaaDoorWire
import Derived.Test.YteclgcnndjcmmaaDoorReader3
import Derived.Test.YteclgcnndjcmmaaDoorRAll
import Derived.Deep.Cut
namespace Go.Proofs.YteclgcnndjcmmaaDoor
open Go.RowKit Go.Maps

def NoU8 (w : World) (R : Nat) : Prop := ∀ j b, w.cell? ⟨R, j, none⟩ ≠ some (.int .u8 b)
theorem Sl.past {S : Nat → Prop} {w : World} {v : Value} {xs : List UInt8} {R : Nat} (h : Sl kByte S w v xs) (hR : NoU8 w R) : Sl kByte (fun x => S x ∧ x ≠ R) w v xs := by
  obtain ⟨A, c, rfl, h1, h2, h3⟩ := h
  refine ⟨A, c, rfl, h1, h2, fun h0 => ?_⟩
  obtain ⟨b, o, rfl, hS, hc⟩ := h3 h0
  refine ⟨b, o, rfl, ⟨hS, fun e => ?_⟩, fun i x hi => ?_⟩
  · subst e
    obtain ⟨x, hx, _⟩ := get_of (l := xs) (k := 0) h0
    obtain ⟨cs, hk, hcell⟩ := hc 0 x hx
    have hk' : cs = [Value.int .u8 (x.toNat : Int)] := hk
    subst hk'
    exact hR _ _ (hcell 0 _ rfl)
  · obtain ⟨cs, hk, hcell⟩ := hc i x hi
    exact ⟨cs, hk, hcell⟩
theorem MapIs.past {P : Program} {K : TypeId} {S : Nat → Prop} {w : World} {b n R : Nat} {m : Int → Option (List UInt8)} (h : MapIs P K S w b m n) (hR : NoU8 w R) : MapIs P K (fun x => S x ∧ x ≠ R) w b m n := by
  obtain ⟨D, h1, h2, h3⟩ := h
  refine ⟨D, h1, h2, fun k hk => ?_⟩
  have h4 := h3 k hk
  cases hm : m k with
  | none => rw [hm] at h4; exact h4
  | some xs =>
    rw [hm] at h4
    obtain ⟨a, v, c, d⟩ := h4
    exact ⟨a, v, c, d.past hR⟩
end Go.Proofs.YteclgcnndjcmmaaDoor
namespace Go.Proofs.YteclgcnndjcmmaaDoor
open Go.RowKit

/-- A call that has no spans. -/
structure CallP where
  kind : Int
  promise : Int
  installed : Int
  inc : Int
  whole : Bool
  floor : Int
  recs : List Redo
def recsBytes (l : List Redo) : List UInt8 := l.flatMap redoBytes
def CallP.nums (c : CallP) : List Int := [c.kind, c.promise, c.installed, c.inc, if c.whole then 1 else 0, c.floor, 0, (c.recs.length : Int)]
def CallP.bytes (c : CallP) : List UInt8 := vints c.nums ++ recsBytes c.recs
structure CallOk (c : CallP) : Prop where
  k0 : 0 ≤ c.kind
  k1 : c.kind ≤ 5
  p0 : 0 ≤ c.promise
  p1 : c.promise ≤ 1073741824
  i0 : 0 ≤ c.installed
  i1 : c.installed ≤ 1073741824
  n0 : 0 ≤ c.inc
  n1 : c.inc ≤ 1073741824
  f0 : 0 ≤ c.floor
  f1 : c.floor ≤ 1099511627776
  rl : c.recs.length ≤ 40
  rv : ∀ r ∈ c.recs, validIx r = none
theorem CallOk.nums {c : CallP} (h : CallOk c) : ∀ n ∈ c.nums, 0 ≤ n ∧ n < 4611686018427387904 := by
  intro n hn
  have h1 := h.k0
  have h2 := h.k1
  have h3 := h.p0
  have h4 := h.p1
  have h5 := h.i0
  have h6 := h.i1
  have h7 := h.n0
  have h8 := h.n1
  have h9 := h.f0
  have ha := h.f1
  have hb := h.rl
  unfold CallP.nums at hn
  simp only [List.mem_cons, List.not_mem_nil, or_false] at hn
  rcases hn with rfl | rfl | rfl | rfl | rfl | rfl | rfl | rfl
  all_goals first | omega | (split <;> omega)
theorem vints_app (l m : List Int) : vints (l ++ m) = vints l ++ vints m := by simp [vints]
theorem redoBytes_len {r : Redo} (h : validIx r = none) : (redoBytes r).length ≤ 200 := by
  have hv := validIx_none h
  have h1 := vints_len (redoNums r) (redoNums_small h)
  have h2 : (redoNums r).length = 8 := rfl
  have h3 := vint_len 9 (zig r.key.length) (by omega) (by unfold zig; split <;> omega)
  have h4 := vint_len 9 (zig r.val.length) (by omega) (by unfold zig; split <;> omega)
  unfold redoBytes bytesOf
  simp only [List.length_append]
  omega
theorem recsBytes_len : ∀ {l : List Redo}, (∀ r ∈ l, validIx r = none) → (recsBytes l).length ≤ 200 * l.length
  | [], _ => by simp [recsBytes]
  | r :: l, h => by
    have h1 := redoBytes_len (h r List.mem_cons_self)
    have h2 := recsBytes_len (l := l) fun x hx => h x (List.mem_cons_of_mem _ hx)
    unfold recsBytes at h2 ⊢
    rw [List.flatMap_cons, List.length_append, List.length_cons]
    omega
theorem recsBytes_snoc {l : List Redo} {k : Nat} {x : Redo} (h : l[k]? = some x) : recsBytes (l.take (k + 1)) = recsBytes (l.take k) ++ redoBytes x := by
  rw [take_snoc h]
  simp [recsBytes]
/-- A record's bytes are read as it, wherever they stand. -/
theorem fromTo_at {r x : Redo} {bs rest : List UInt8} {p : Nat} {s : Nat × Option (Nat × Nat)} (ok : validIx r = none) (hbs : bs.drop p = redoBytes r ++ rest) (h : FromTo bs (p, none) x s) : x = r ∧ s = (p + (redoBytes r).length, none) ∧ bs.drop (p + (redoBytes r).length) = rest := by
  have hv := validIx_none ok
  obtain ⟨s1, s2, s3, s4, s5, s6, s7, s8, s9, v8, n1, n2, n3, n4, n5, n6, n7, n8, hl, b1, b2⟩ := h
  have hb : bs.drop p = vint (zig r.lsn) ++ (vint (zig r.back) ++ (vint (zig r.epoch) ++ (vint (zig r.group) ++ (vint (zig r.page) ++ (vint (zig r.kind) ++ (vint (zig r.slot) ++ (vint (zig (if r.last then 1 else 0)) ++ (bytesOf r.key ++ (bytesOf r.val ++ rest))))))))) := by
    rw [hbs]
    simp [redoBytes, vints, redoNums]
  obtain ⟨m1, hb⟩ := stNum_good (low := 1) (high := 1099511627776) (by omega) (by omega) (zig_small (by omega) (by omega)) hb
  rw [m1] at n1
  obtain ⟨e1, rfl⟩ := Prod.mk.inj n1
  obtain ⟨m2, hb⟩ := stNum_good (low := 0) (high := 1099511627776) (by omega) (by omega) (zig_small (by omega) (by omega)) hb
  rw [m2] at n2
  obtain ⟨e2, rfl⟩ := Prod.mk.inj n2
  obtain ⟨m3, hb⟩ := stNum_good (low := 0) (high := 1073741824) (by omega) (by omega) (zig_small (by omega) (by omega)) hb
  rw [m3] at n3
  obtain ⟨e3, rfl⟩ := Prod.mk.inj n3
  obtain ⟨m4, hb⟩ := stNum_good (low := 0) (high := 3) (by omega) (by omega) (zig_small (by omega) (by omega)) hb
  rw [m4] at n4
  obtain ⟨e4, rfl⟩ := Prod.mk.inj n4
  obtain ⟨m5, hb⟩ := stNum_good (low := 0) (high := 255) (by omega) (by omega) (zig_small (by omega) (by omega)) hb
  rw [m5] at n5
  obtain ⟨e5, rfl⟩ := Prod.mk.inj n5
  obtain ⟨m6, hb⟩ := stNum_good (low := 1) (high := 6) (by omega) (by omega) (zig_small (by omega) (by omega)) hb
  rw [m6] at n6
  obtain ⟨e6, rfl⟩ := Prod.mk.inj n6
  obtain ⟨m7, hb⟩ := stNum_good (low := 0) (high := 32768) (by omega) (by omega) (zig_small (by omega) (by omega)) hb
  rw [m7] at n7
  obtain ⟨e7, rfl⟩ := Prod.mk.inj n7
  obtain ⟨m8, hb⟩ := stNum_good (low := 0) (high := 1) (by split <;> omega) (by split <;> omega) (zig_small (by split <;> omega) (by split <;> omega)) hb
  rw [m8] at n8
  obtain ⟨e8, rfl⟩ := Prod.mk.inj n8
  obtain ⟨m9, hb⟩ := stBytes_good (most := 32) (by omega) (by omega) hb
  rw [m9] at b1
  obtain ⟨e9, rfl⟩ := Prod.mk.inj b1
  obtain ⟨m10, hb⟩ := stBytes_good (most := 64) (by omega) (by omega) hb
  rw [m10] at b2
  obtain ⟨e10, rfl⟩ := Prod.mk.inj b2
  refine ⟨?_, ?_, by rw [← List.drop_drop, hbs, List.drop_left]⟩
  · obtain ⟨lsn, back, epoch, group, page, kind, slot, key, val, last⟩ := r
    obtain ⟨lsn', back', epoch', group', page', kind', slot', key', val', last'⟩ := x
    dsimp only at *
    subst e1 e2 e3 e4 e5 e6 e7 e9 e10 e8
    rw [hl]
    congr 1
    cases last <;> rfl
  · simp only [redoBytes, vints, redoNums, List.flatMap_cons, List.flatMap_nil, List.length_append, List.append_nil, Prod.mk.injEq, and_true]
    omega
end Go.Proofs.YteclgcnndjcmmaaDoor
namespace Go.Proofs.YteclgcnndjcmmaaDoor
open Go.RowKit

set_option maxRecDepth 100000 in
theorem span_bytes0 (w : World) : Calls Tryd.prog 82 #[.slice none 0 0] w fun e w' => ∃ A c, e = .returned (.slice A 1 c) ∧ Own kByte 5 w.heap.size All w' (.slice A 1 c) [0] ∧ Fr All w w' := by
  have h0 : Sl kSpan Nowhere w (.slice none 0 0) [] := Sl.nil_ _ _ _
  have hok : SpansOk [] := ⟨by simp, fun s hs => (by cases hs), fun i a b h => (by simp at h)⟩
  go_enter Tryd.func82, Tryd.ntmps82
  go_wp2_with fail
  refine (spans_ok h0 hok).mono ?_
  rintro e w1 ⟨rfl, f1⟩
  clear h0 hok
  go_wp2_with fail
  refine (put2_call' (n := 0) (Sl.nil_ kByte All w1) (by simp) (by omega) (by omega)).mono ?_
  rintro e w2 ⟨zs, A, c, rfl, HZ, o2, f2⟩
  have hz : zs = [0] := HZ.out.trans (by kernel_rfl)
  subst hz
  have FF := f1.trans f2
  have hsz := f1.size
  go_wp2_with fail
  go_loopw [3, 14] (fun b i wr => b = .slice A 1 c ∧ i = .int .i64 0 ∧ wr = w2) (fun _ _ _ => 0)
  case atStart => exact ⟨rfl, rfl, rfl⟩
  case round =>
    obtain ⟨rfl, rfl, hwr⟩ := hrel
    obtain rfl := hwr.symm
    clear hwr
    go_wp2_with fail
    go_ret
    exact ⟨A, c, rfl, o2.lower hsz, FF⟩

section
variable {w0 : World} {qs : List Addr} {R n c pos : Nat} {bs : List UInt8} {A : Option Addr} {w w' : World} {ev : Value}
set_option maxRecDepth 100000 in
theorem span_from0 (h : Rd w0 qs R bs A n c w pos none ev) {p : Nat} (hz : stNum 0 64 bs (pos, none) = (0, p, none)) :
    Calls Tryd.prog 66 #[.pointer (some ⟨R, 0, none⟩)] w fun e w' => ∃ ev', e = .returned (.slice none 0 0) ∧ Rd w0 qs R bs A n c w' p none ev' ∧ Fr (fun b => b ≠ R) w w' := by
  have H := Lib.hid h
  have HZ := Lib.hid hz
  clear h hz
  go_enter Tryd.func66, Tryd.ntmps66
  go_wp2_with fail
  refine (num_call' H.out 0 64).mono ?_
  rintro e w1 ⟨v, q, er, ev', rfl, HN, HR, f1⟩
  have h1 := HN.out
  rw [HZ.out] at h1
  obtain ⟨rfl, rfl, rfl⟩ : 0 = v ∧ p = q ∧ none = er := by
    injection h1 with h1 h2
    injection h2 with h2 h3
    exact ⟨h1, h2, h3⟩
  clear h1
  go_wp2_with fail
  go_loopw [3, 4] (fun u i wr => u = .slice none 0 0 ∧ i = .int .i64 0 ∧ wr = w1) (fun _ _ _ => 0)
  case atStart => exact ⟨rfl, rfl, rfl⟩
  case round =>
    obtain ⟨rfl, rfl, hwr⟩ := hrel
    obtain rfl := hwr.symm
    clear hwr
    go_wp2_with fail
    go_ret
    exact ⟨ev', rfl, HR.out, f1⟩
end
end Go.Proofs.YteclgcnndjcmmaaDoor
namespace Go.Proofs.YteclgcnndjcmmaaDoor
open Go.RowKit

section
variable {w0 : World} {qs : List Addr} {R n c pos : Nat} {bs : List UInt8} {A : Option Addr} {w w' : World} {ev : Value}
theorem Rd.nil_ (h : Rd w0 qs R bs A n c w pos none ev) : Rd w0 qs R bs A n c w pos none .nilIface := by
  have he : ev = .nilIface := h.err
  rw [he] at h
  exact h
/-- A number that is known to stand there. -/
theorem num_is (h : Rd w0 qs R bs A n c w pos none ev) {low high x : Int} {p : Nat} (hz : stNum low high bs (pos, none) = (x, p, none)) :
    Calls Tryd.prog 64 #[.pointer (some ⟨R, 0, none⟩), .int .i64 low, .int .i64 high] w fun e w' => e = .returned (.int .i64 x) ∧ Rd w0 qs R bs A n c w' p none .nilIface ∧ Fr (fun b => b ≠ R) w w' := by
  refine (num_call' h low high).mono ?_
  rintro e w' ⟨v, q, er, ev', rfl, h1, h2, h3⟩
  have h1' := h1.out
  rw [hz] at h1'
  obtain ⟨rfl, h4⟩ := Prod.mk.inj h1'
  obtain ⟨rfl, rfl⟩ := Prod.mk.inj h4
  exact ⟨rfl, h2.out.nil_, h3⟩
theorem bool_is (h : Rd w0 qs R bs A n c w pos none ev) {b : Bool} {p : Nat} (hz : stNum 0 1 bs (pos, none) = (if b then 1 else 0, p, none)) :
    Calls Tryd.prog 65 #[.pointer (some ⟨R, 0, none⟩)] w fun e w' => e = .returned (.bool b) ∧ Rd w0 qs R bs A n c w' p none .nilIface ∧ Fr (fun b => b ≠ R) w w' := by
  refine (bool_call' h).mono ?_
  rintro e w' ⟨x, v, q, er, ev', rfl, h1, hx, h2, h3⟩
  have h1' := h1.out
  rw [hz] at h1'
  obtain ⟨rfl, h4⟩ := Prod.mk.inj h1'
  obtain ⟨rfl, rfl⟩ := Prod.mk.inj h4
  have hb : x = b := by rw [hx.out]; cases b <;> rfl
  rw [hb]
  exact ⟨rfl, h2.out.nil_, h3⟩
end

theorem Fr.newest {w a b : World} {g : Nat} (f : Fr All w a) (hg : w.heap.size ≤ g) (k : Fr (fun x => x ≠ g) a b) : Fr All w b :=
  ⟨k.os.trans f.os, k.tape.trans f.tape, k.output.trans f.output, Nat.le_trans f.size k.size, fun m hm _ => (k.block m (Nat.lt_of_lt_of_le hm f.size) (by omega)).trans (f.block m hm trivial)⟩
/-- A reader without an error abides the turn of another block that was made since. -/
theorem Rd.past {w0 : World} {qs : List Addr} {R n c pos : Nat} {bs : List UInt8} {A : Option Addr} {w w' : World} {ev : Value} {g : Nat} (h : Rd w0 qs R bs A n c w pos none ev) (f : Fr (fun b => b ≠ g) w w') (hg : R < g) (hn : NoU8 w g) : Rd w0 qs R bs A n c w' pos none ev where
  errs := h.errs
  fr := h.fr.newest (by have := h.new; omega) f
  new := h.new
  lt := Nat.lt_of_lt_of_le h.lt f.size
  k0 := f.cell (p := ⟨R, 0, none⟩) (by show R ≠ g; omega) h.k0
  k1 := f.cell (p := ⟨R, 1, none⟩) (by show R ≠ g; omega) h.k1
  k2 := f.cell (p := ⟨R, 2, none⟩) (by show R ≠ g; omega) h.k2
  kz := fun j => (World.frozen?_of_block (a := ⟨R, j, none⟩) (f.block _ h.lt (by show R ≠ g; omega))).trans (h.kz j)
  sl := ((h.sl.past hn).move' f fun b hb _ => hb.2).mono fun b hb _ => hb.1
  small := h.small
  pos_le := h.pos_le
  err := h.err
theorem Rd.turn {S : Nat → Prop} {w0 : World} {qs : List Addr} {R n c pos : Nat} {bs : List UInt8} {A : Option Addr} {w w' : World} {ev : Value} (h : Rd w0 qs R bs A n c w pos none ev) (f : Fr S w w') (hS : S R) (f0 : Fr All w0 w') (hsl : Sl kByte (fun b => b ≠ R) w' (.slice A n c) bs) : Rd w0 qs R bs A n c w' pos none ev where
  errs := h.errs
  fr := f0
  new := h.new
  lt := Nat.lt_of_lt_of_le h.lt f.size
  k0 := f.cell (p := ⟨R, 0, none⟩) hS h.k0
  k1 := f.cell (p := ⟨R, 1, none⟩) hS h.k1
  k2 := f.cell (p := ⟨R, 2, none⟩) hS h.k2
  kz := fun j => (World.frozen?_of_block (a := ⟨R, j, none⟩) (f.block _ h.lt hS)).trans (h.kz j)
  sl := hsl
  small := h.small
  pos_le := h.pos_le
  err := h.err
theorem noU8_call {w : World} {g : Nat} {a0 a1 a2 a3 a5 : Int} {b4 b8 : Bool} {A6 A7 : Option Addr} {n6 c6 n7 c7 : Nat} {t : TypeId} (h : w.heap[g]? = some (.cells #[.int .i64 a0, .int .i64 a1, .int .i64 a2, .int .i64 a3, .bool b4, .int .i64 a5, .slice A6 n6 c6, .slice A7 n7 c7, .bool b8] t (0, 0))) : NoU8 w g := by
  intro j b e
  rw [(blk_cells h).1 j] at e
  rcases j with _ | _ | _ | _ | _ | _ | _ | _ | _ | j <;> simp at e
/-- Where a call's numbers stand. -/
structure Stands (c : CallP) (bs : List UInt8) (p1 p2 p3 p4 p5 p6 p7 p8 : Nat) : Prop where
  n1 : stNum 0 5 bs (0, none) = (c.kind, p1, none)
  n2 : stNum 0 1073741824 bs (p1, none) = (c.promise, p2, none)
  n3 : stNum 0 1073741824 bs (p2, none) = (c.installed, p3, none)
  n4 : stNum 0 1073741824 bs (p3, none) = (c.inc, p4, none)
  n5 : stNum 0 1 bs (p4, none) = (if c.whole then 1 else 0, p5, none)
  n6 : stNum 0 1099511627776 bs (p5, none) = (c.floor, p6, none)
  n7 : stNum 0 64 bs (p6, none) = (0, p7, none)
  n8 : stNum 0 16384 bs (p7, none) = ((c.recs.length : Int), p8, none)
  rest : bs.drop p8 = recsBytes c.recs
  len : bs.length = p8 + (recsBytes c.recs).length
theorem stands {c : CallP} (ok : CallOk c) : ∃ p1 p2 p3 p4 p5 p6 p7 p8, Stands c c.bytes p1 p2 p3 p4 p5 p6 p7 p8 := by
  have h1 := ok.k0
  have h2 := ok.k1
  have h3 := ok.p0
  have h4 := ok.p1
  have h5 := ok.i0
  have h6 := ok.i1
  have h7 := ok.n0
  have h8 := ok.n1
  have h9 := ok.f0
  have ha := ok.f1
  have hb := ok.rl
  obtain ⟨bs, hbs⟩ : ∃ bs, c.bytes = bs := ⟨_, rfl⟩
  rw [hbs]
  have d : bs.drop 0 = vint (zig c.kind) ++ (vint (zig c.promise) ++ (vint (zig c.installed) ++ (vint (zig c.inc) ++ (vint (zig (if c.whole then 1 else 0)) ++ (vint (zig c.floor) ++ (vint (zig 0) ++ (vint (zig (c.recs.length : Int)) ++ recsBytes c.recs))))))) := by
    rw [List.drop_zero, ← hbs]
    simp [CallP.bytes, CallP.nums, vints]
  have hl : bs.length = _ := congrArg List.length d
  obtain ⟨m1, d1⟩ := stNum_good (low := 0) (high := 5) (by omega) (by omega) (zig_small (by omega) (by omega)) d
  obtain ⟨m2, d2⟩ := stNum_good (low := 0) (high := 1073741824) (by omega) (by omega) (zig_small (by omega) (by omega)) d1
  obtain ⟨m3, d3⟩ := stNum_good (low := 0) (high := 1073741824) (by omega) (by omega) (zig_small (by omega) (by omega)) d2
  obtain ⟨m4, d4⟩ := stNum_good (low := 0) (high := 1073741824) (by omega) (by omega) (zig_small (by omega) (by omega)) d3
  obtain ⟨m5, d5⟩ := stNum_good (low := 0) (high := 1) (by split <;> omega) (by split <;> omega) (zig_small (by split <;> omega) (by split <;> omega)) d4
  obtain ⟨m6, d6⟩ := stNum_good (low := 0) (high := 1099511627776) (by omega) (by omega) (zig_small (by omega) (by omega)) d5
  obtain ⟨m7, d7⟩ := stNum_good (low := 0) (high := 64) (by omega) (by omega) (zig_small (by omega) (by omega)) d6
  obtain ⟨m8, d8⟩ := stNum_good (low := 0) (high := 16384) (by omega) (by omega) (zig_small (by omega) (by omega)) d7
  refine ⟨_, _, _, _, _, _, _, _, m1, m2, m3, m4, m5, m6, m7, m8, d8, ?_⟩
  rw [hl]
  simp only [List.length_append]
  omega

set_option maxRecDepth 100000 in
set_option maxHeartbeats 4000000 in
theorem call_read {qs : List Addr} {w : World} {c : CallP} {v : Value} {S : Nat → Prop} (hq : Errs w qs) (h : Sl kByte S w v c.bytes) (ok : CallOk c) :
    Calls Tryd.prog 41 #[v] w fun e w' => ∃ RA rc, e = .returned (.tuple #[.agg #[.int .i64 c.kind, .int .i64 c.promise, .int .i64 c.installed, .int .i64 c.inc, .bool c.whole, .int .i64 c.floor, .slice none 0 0, .slice RA c.recs.length rc, .bool false], .bool true]) ∧ Sl kRedo (From w.heap.size) w' (.slice RA c.recs.length rc) c.recs ∧ Fr All w w' := by
  obtain ⟨p1, p2, p3, p4, p5, p6, p7, p8, hs⟩ := stands ok
  have hlen : c.bytes.length ≤ 1000000 := by
    have h1 := vints_len c.nums ok.nums
    have h2 := recsBytes_len ok.rv
    have h3 := ok.rl
    have h4 : c.nums.length = 8 := rfl
    unfold CallP.bytes
    rw [List.length_append]
    omega
  obtain ⟨bs, hbs⟩ : ∃ bs, c.bytes = bs := ⟨_, rfl⟩
  rw [hbs] at hs h hlen
  obtain ⟨VA, vn, vc, rfl, en, _⟩ := h.open_
  have HS := Lib.hid hs
  have Ok := Lib.hid ok
  have F0 := (Fr.refl All w).alloc (.cells #[.int .i64 0, .int .i64 0, .int .i64 0, .int .i64 0, .bool false, .int .i64 0, .slice none 0 0, .slice none 0 0, .bool false] 64)
  have B0 := heap_alloc_new w (.cells #[.int .i64 0, .int .i64 0, .int .i64 0, .int .i64 0, .bool false, .int .i64 0, .slice none 0 0, .slice none 0 0, .bool false] 64)
  have H := Lib.hid h
  have HQ := Lib.hid hq
  clear hs ok hbs h hq en
  go_enter Tryd.func41, Tryd.ntmps41
  go_wp2_with fail
  refine (new_reader (HQ.out.move F0) (H.out.all F0) hlen).mono ?_
  rintro e w1 ⟨R, A, m, rfl, hr⟩
  have HR := Lib.hid hr
  have B1 := (hr.fr.block w.heap.size (blk_lt B0) trivial).trans B0
  have F1 := F0.trans hr.fr
  have hR0 : w.heap.size < R := by have := hr.new; simp at this; omega
  clear hr B0 F0 H
  go_wp2_with fail
  refine (num_is HR.out HS.out.n1).mono ?_
  rintro e w2 ⟨rfl, hr, f2⟩
  have HR2 := Lib.hid hr
  have B2 := (f2.block w.heap.size (blk_lt B1) (by omega)).trans B1
  have hR2 := hr.lt
  clear hr HR
  go_upto_region 4 with fail
  refine wp_name ?_
  intro V3 hV3
  have BP := heap_alloc2_new w2 (.cells #[.int .i64 c.kind, .int .i64 0, .int .i64 0, .int .i64 0, .bool false, .int .i64 0, .slice none 0 0, .slice none 0 0, .bool false] 64) (.cells #[.pointer (some ⟨w2.heap.size, 1, none⟩), .pointer (some ⟨w2.heap.size, 2, none⟩), .pointer (some ⟨w2.heap.size, 3, none⟩)] 110)
  have BC := heap_alloc2_old w2 (.cells #[.int .i64 c.kind, .int .i64 0, .int .i64 0, .int .i64 0, .bool false, .int .i64 0, .slice none 0 0, .slice none 0 0, .bool false] 64) (.cells #[.pointer (some ⟨w2.heap.size, 1, none⟩), .pointer (some ⟨w2.heap.size, 2, none⟩), .pointer (some ⟨w2.heap.size, 3, none⟩)] 110)
  have F3 := ((Fr.refl All w2).alloc (.cells #[.int .i64 c.kind, .int .i64 0, .int .i64 0, .int .i64 0, .bool false, .int .i64 0, .slice none 0 0, .slice none 0 0, .bool false] 64)).alloc (.cells #[.pointer (some ⟨w2.heap.size, 1, none⟩), .pointer (some ⟨w2.heap.size, 2, none⟩), .pointer (some ⟨w2.heap.size, 3, none⟩)] 110)
  rw [← hV3] at BP BC F3
  have HR3 := Lib.hid (HR2.out.move F3)
  have B3 := (F3.block w.heap.size (blk_lt B2) trivial).trans B2
  have FA3 : Hid (Fr All w V3) := Lib.hid ((F1.newest (by omega) f2).trans F3)
  obtain ⟨Bc, hBc⟩ : ∃ Bc, w2.heap.size = Bc := ⟨_, rfl⟩
  rw [hBc] at BP BC hR2 ⊢
  have hw1 : w.heap.size < w1.heap.size := blk_lt B1
  clear hV3 F3 HR2 B1 B2 F1 f2 hBc
  refine wp_loop_rounds 4 ?_
  rw [rounds_succ]
  have q0 : V3.cell? ⟨Bc + 1, 0, none⟩ = some (.pointer (some ⟨Bc, 1, none⟩)) := (blk_cells BP).1 0
  go_wp2_with fail
  clear q0
  refine (num_is HR3.out HS.out.n2).mono ?_
  rintro e w4 ⟨rfl, hr, g3⟩
  have BP := (g3.block _ (blk_lt BP) (by omega)).trans BP
  have BC := (g3.block _ (blk_lt BC) (by omega)).trans BC
  have B4 := (g3.block _ (blk_lt B3) (by omega)).trans B3
  have HR4 := Lib.hid hr
  have FA4 : Hid (Fr All w w4) := Lib.hid (FA3.out.newest (by omega) g3)
  have cc : w4.cell? ⟨Bc, 1, none⟩ = some (.int .i64 0) := (blk_cells BC).1 1
  have cz := (blk_cells BC).2
  have nu := noU8_call BC
  clear hr HR3 B3 g3
  go_upto_region 7 with fail
  refine wp_name ?_
  intro V5 hV5
  have gB : Fr (fun b => b ≠ Bc) w4 V5 := by rw [hV5]; exact (Fr.refl _ _).setCell (fun m hm => by exact hm) _
  have BC : V5.heap[Bc]? = some (.cells #[.int .i64 c.kind, .int .i64 c.promise, .int .i64 0, .int .i64 0, .bool false, .int .i64 0, .slice none 0 0, .slice none 0 0, .bool false] 64 (0, 0)) := by rw [hV5]; exact heap_setCell_same _ _ 1 _ _ _ BC
  have BP := (gB.block _ (blk_lt BP) (by omega)).trans BP
  have B5 := (gB.block _ (blk_lt B4) (by omega)).trans B4
  have FA5 : Hid (Fr All w V5) := Lib.hid (FA4.out.newest (by omega) gB)
  have HR5 := Lib.hid (HR4.out.past gB (by omega) nu)
  clear cc cz nu hV5 gB B4 HR4 FA4 FA3
  go_wp2_with fail
  rw [rounds_succ]
  have q1 : V5.cell? ⟨Bc + 1, 1, none⟩ = some (.pointer (some ⟨Bc, 2, none⟩)) := (blk_cells BP).1 1
  go_wp2_with fail
  clear q1
  refine (num_is HR5.out HS.out.n3).mono ?_
  rintro e w6 ⟨rfl, hr, g5⟩
  have BP := (g5.block _ (blk_lt BP) (by omega)).trans BP
  have BC := (g5.block _ (blk_lt BC) (by omega)).trans BC
  have B6 := (g5.block _ (blk_lt B5) (by omega)).trans B5
  have HR6 := Lib.hid hr
  have FA6 : Hid (Fr All w w6) := Lib.hid (FA5.out.newest (by omega) g5)
  have cc : w6.cell? ⟨Bc, 2, none⟩ = some (.int .i64 0) := (blk_cells BC).1 2
  have cz := (blk_cells BC).2
  have nu := noU8_call BC
  clear hr HR5 B5 g5
  go_upto_region 7 with fail
  refine wp_name ?_
  intro V7 hV7
  have gB : Fr (fun b => b ≠ Bc) w6 V7 := by rw [hV7]; exact (Fr.refl _ _).setCell (fun m hm => by exact hm) _
  have BC : V7.heap[Bc]? = some (.cells #[.int .i64 c.kind, .int .i64 c.promise, .int .i64 c.installed, .int .i64 0, .bool false, .int .i64 0, .slice none 0 0, .slice none 0 0, .bool false] 64 (0, 0)) := by rw [hV7]; exact heap_setCell_same _ _ 2 _ _ _ BC
  have BP := (gB.block _ (blk_lt BP) (by omega)).trans BP
  have B7 := (gB.block _ (blk_lt B6) (by omega)).trans B6
  have FA7 : Hid (Fr All w V7) := Lib.hid (FA6.out.newest (by omega) gB)
  have HR7 := Lib.hid (HR6.out.past gB (by omega) nu)
  clear cc cz nu hV7 gB B6 HR6 FA6 FA5
  go_wp2_with fail
  rw [rounds_succ]
  have q2 : V7.cell? ⟨Bc + 1, 2, none⟩ = some (.pointer (some ⟨Bc, 3, none⟩)) := (blk_cells BP).1 2
  go_wp2_with fail
  clear q2
  refine (num_is HR7.out HS.out.n4).mono ?_
  rintro e w8 ⟨rfl, hr, g7⟩
  have BP := (g7.block _ (blk_lt BP) (by omega)).trans BP
  have BC := (g7.block _ (blk_lt BC) (by omega)).trans BC
  have B8 := (g7.block _ (blk_lt B7) (by omega)).trans B7
  have HR8 := Lib.hid hr
  have FA8 : Hid (Fr All w w8) := Lib.hid (FA7.out.newest (by omega) g7)
  have cc : w8.cell? ⟨Bc, 3, none⟩ = some (.int .i64 0) := (blk_cells BC).1 3
  have cz := (blk_cells BC).2
  have nu := noU8_call BC
  clear hr HR7 B7 g7
  go_upto_region 7 with fail
  refine wp_name ?_
  intro V9 hV9
  have gB : Fr (fun b => b ≠ Bc) w8 V9 := by rw [hV9]; exact (Fr.refl _ _).setCell (fun m hm => by exact hm) _
  have BC : V9.heap[Bc]? = some (.cells #[.int .i64 c.kind, .int .i64 c.promise, .int .i64 c.installed, .int .i64 c.inc, .bool false, .int .i64 0, .slice none 0 0, .slice none 0 0, .bool false] 64 (0, 0)) := by rw [hV9]; exact heap_setCell_same _ _ 3 _ _ _ BC
  have BP := (gB.block _ (blk_lt BP) (by omega)).trans BP
  have B9 := (gB.block _ (blk_lt B8) (by omega)).trans B8
  have FA9 : Hid (Fr All w V9) := Lib.hid (FA8.out.newest (by omega) gB)
  have HR9 := Lib.hid (HR8.out.past gB (by omega) nu)
  clear cc cz nu hV9 gB B8 HR8 FA8 FA7
  go_wp2_with fail
  rw [rounds_succ]
  go_wp2_with fail
  clear BP
  refine (bool_is HR9.out HS.out.n5).mono ?_
  rintro e w10 ⟨rfl, hr, g9⟩
  have BC := (g9.block _ (blk_lt BC) (by omega)).trans BC
  have B10 := (g9.block _ (blk_lt B9) (by omega)).trans B9
  have HR10 := Lib.hid hr
  have FA10 : Hid (Fr All w w10) := Lib.hid (FA9.out.newest (by omega) g9)
  clear hr HR9 B9 g9 FA9
  go_wp2_with fail
  refine (num_is HR10.out HS.out.n6).mono ?_
  rintro e w11 ⟨rfl, hr, g10⟩
  have BC := (g10.block _ (blk_lt BC) (by omega)).trans BC
  have B11 := (g10.block _ (blk_lt B10) (by omega)).trans B10
  have HR11 := Lib.hid hr
  have FA11 : Hid (Fr All w w11) := Lib.hid (FA10.out.newest (by omega) g10)
  clear hr HR10 B10 g10 FA10
  have c4 : w11.cell? ⟨Bc, 4, none⟩ = some (.bool false) := (blk_cells BC).1 4
  have c5 : w11.cell? ⟨Bc, 5, none⟩ = some (.int .i64 0) := (blk_cells BC).1 5
  have cz := (blk_cells BC).2
  have nu := noU8_call BC
  go_upto_region 9 with fail
  refine wp_name ?_
  intro V12 hV12
  have gB : Fr (fun b => b ≠ Bc) w11 V12 := by rw [hV12]; exact ((Fr.refl _ _).setCell (fun m hm => by exact hm) _).setCell (fun m hm => by exact hm) _
  have BC : V12.heap[Bc]? = some (.cells #[.int .i64 c.kind, .int .i64 c.promise, .int .i64 c.installed, .int .i64 c.inc, .bool c.whole, .int .i64 c.floor, .slice none 0 0, .slice none 0 0, .bool false] 64 (0, 0)) := by rw [hV12]; exact heap_setCell_same _ _ 5 _ _ _ (heap_setCell_same _ _ 4 _ _ _ BC)
  have B12 := (gB.block _ (blk_lt B11) (by omega)).trans B11
  have FA12 : Hid (Fr All w V12) := Lib.hid (FA11.out.newest (by omega) gB)
  have HR12 := Lib.hid (HR11.out.past gB (by omega) nu)
  clear c4 c5 cz nu hV12 gB B11 HR11 FA11
  go_wp2_with fail
  refine (span_from0 HR12.out HS.out.n7).mono ?_
  rintro e w13 ⟨ev', rfl, hr, g12⟩
  have BC := (g12.block _ (blk_lt BC) (by omega)).trans BC
  have B13 := (g12.block _ (blk_lt B12) (by omega)).trans B12
  have HR13 := Lib.hid hr.nil_
  have FA13 : Hid (Fr All w w13) := Lib.hid (FA12.out.newest (by omega) g12)
  clear hr HR12 B12 g12 FA12
  have c6 : w13.cell? ⟨Bc, 6, none⟩ = some (.slice none 0 0) := (blk_cells BC).1 6
  have cz := (blk_cells BC).2
  have nu := noU8_call BC
  go_upto_region 10 with fail
  refine wp_name ?_
  intro V14 hV14
  have gB : Fr (fun b => b ≠ Bc) w13 V14 := by rw [hV14]; exact (Fr.refl _ _).setCell (fun m hm => by exact hm) _
  have BC : V14.heap[Bc]? = some (.cells #[.int .i64 c.kind, .int .i64 c.promise, .int .i64 c.installed, .int .i64 c.inc, .bool c.whole, .int .i64 c.floor, .slice none 0 0, .slice none 0 0, .bool false] 64 (0, 0)) := by rw [hV14]; exact heap_setCell_same _ _ 6 _ _ _ BC
  have B14 := (gB.block _ (blk_lt B13) (by omega)).trans B13
  have FA14 : Hid (Fr All w V14) := Lib.hid (FA13.out.newest (by omega) gB)
  have HR14 := Lib.hid (HR13.out.past gB (by omega) nu)
  clear c6 cz nu hV14 gB B13 HR13 FA13
  go_wp2_with fail
  refine (num_is HR14.out HS.out.n8).mono ?_
  rintro e w15 ⟨rfl, hr, g14⟩
  have BC := (g14.block _ (blk_lt BC) (by omega)).trans BC
  have B15 := (g14.block _ (blk_lt B14) (by omega)).trans B14
  have HR15 := Lib.hid hr
  have FA15 : Hid (Fr All w w15) := Lib.hid (FA14.out.newest (by omega) g14)
  clear hr HR14 B14 g14 FA14
  obtain ⟨rn, hrn⟩ : ∃ rn, c.recs.length = rn := ⟨_, rfl⟩
  rw [hrn]
  have HRN := Lib.hid hrn
  have hr40 : rn ≤ 40 := by have := Ok.out.rl; omega
  have HB15 := Lib.hid BC
  have HB0 := Lib.hid B15
  have HW15 : Hid (w.heap.size < w15.heap.size) := Lib.hid (blk_lt B15)
  have HSL : Hid (Sl kByte (fun b => b ≠ R ∧ b ≠ Bc ∧ b < w15.heap.size) w15 (.slice A bs.length m) bs) := Lib.hid ((HR15.out.sl.past (noU8_call BC)).mono fun b hb hl => ⟨hb.1, hb.2, hl⟩)
  have hBw : Bc < w15.heap.size := blk_lt BC
  clear BC B15 hrn
  go_wp2_with fail
  go_loopw [8] (fun nx wr => ∃ (k : Nat) (RA : Option Addr) (rc p : Nat) (xs : List Redo), k ≤ rn ∧ nx = .int .i64 ((rn - k : Nat) : Int) ∧ Hid (xs = c.recs.take k) ∧ Hid (bs.drop p = recsBytes (c.recs.drop k)) ∧ Hid (wr.heap[Bc]? = some (.cells #[.int .i64 c.kind, .int .i64 c.promise, .int .i64 c.installed, .int .i64 c.inc, .bool c.whole, .int .i64 c.floor, .slice none 0 0, .slice RA k rc, .bool false] 64 (0, 0))) ∧ Hid (Own kRedo 36 w15.heap.size (From w15.heap.size) wr (.slice RA k rc) xs) ∧ Hid (Rd _ qs R bs A bs.length m wr p none .nilIface) ∧ Hid (wr.heap[w.heap.size]? = some (.cells #[.int .i64 0, .int .i64 0, .int .i64 0, .int .i64 0, .bool false, .int .i64 0, .slice none 0 0, .slice none 0 0, .bool false] 64 (0, 0))) ∧ Hid (Fr All w wr) ∧ w15.heap.size ≤ wr.heap.size ∧ Hid (Sl kByte (fun b => b ≠ R ∧ b ≠ Bc ∧ b < w15.heap.size) wr (.slice A bs.length m) bs)) (fun nx _ => (Go.RowKit.intOf nx).toNat)
  case atStart => exact ⟨0, none, 0, p8, [], Nat.zero_le _, rfl, Lib.hid rfl, Lib.hid HS.out.rest, HB15, Lib.hid (Own.nil_ _ _ _ _ _), HR15, HB0, FA15, Nat.le_refl _, HSL⟩
  case round =>
    obtain ⟨k, RA, rc, p, xs, hk, rfl, HX, HD, HBC, HO, HR, HB0, HF, hsz, HSL⟩ := hrel
    by_cases hlt : k < rn
    · have hpos : decide (((rn - k : Nat) : Int) > 0) = true := decide_eq_true (by omega)
      have hp2 : 0 < rn - k := by omega
      obtain ⟨r, hr, hrm⟩ := get_of (l := c.recs) (k := k) (by rw [HRN.out]; exact hlt)
      have Hr := Lib.hid hr
      have HRV := Lib.hid (Ok.out.rv r hrm)
      have hdk : bs.drop p = redoBytes r ++ recsBytes (c.recs.drop (k + 1)) := by
        have h1 := List.getElem?_eq_some_iff.1 hr
        rw [HD.out, List.drop_eq_getElem_cons h1.1, h1.2]
        simp [recsBytes]
      have HDK := Lib.hid hdk
      clear hr hrm hdk
      go_wp2_with fail
      refine (err_call HR.out).mono ?_
      rintro e w16 ⟨rfl, hw16⟩
      obtain rfl := hw16.symm
      clear hw16
      have e7 : wr.cell? ⟨Bc, 7, none⟩ = some (.slice RA k rc) := (blk_cells HBC.out).1 7
      go_upto_region 13 with fail
      clear hpos hp2
      refine wp_region_last (S := fun w' => w'.cell? ⟨Bc, 7, none⟩ = some (.slice RA k rc)) 7 (by kernel_rfl) rfl (by kernel_rfl) e7 (fun hHeld => ?_)
      simp only [List.take_succ_cons, List.take_zero]
      refine wpAnyH_take (i := 0) (v := ?_) rfl (by kernel_rfl) (by kernel_rfl) (by kernel_rfl) (fun _ _ _ h => h) (Or.inl ⟨by rfl, ?_⟩) (by assumption) ?_
      rotate_left
      · (intro w hSw; (try dsimp only at hSw); go_simp; try with_reducible rfl)
      try simp only [List.getElem_toArray, List.getElem_cons_succ, List.getElem_cons_zero, Act.put, List.setIfInBounds_toArray, List.set_cons_succ, List.set_cons_zero]
      refine wpAnyH_take (i := 1) (v := ?_) rfl (by kernel_rfl) (by kernel_rfl) (by kernel_rfl) (fun _ _ _ h => h) (Or.inl ⟨by rfl, ?_⟩) (by assumption) ?_
      rotate_left
      · (intro w hSw; (try dsimp only at hSw); go_simp; try with_reducible rfl)
      try simp only [List.getElem_toArray, List.getElem_cons_succ, List.getElem_cons_zero, Act.put, List.setIfInBounds_toArray, List.set_cons_succ, List.set_cons_zero]
      refine wpAnyH_take (i := 2) (v := ?_) rfl (by kernel_rfl) (by kernel_rfl) (by kernel_rfl) (fun _ _ _ h => h) (Or.inl ⟨by rfl, ?_⟩) (by assumption) ?_
      rotate_left
      · (intro w hSw; (try dsimp only at hSw); go_simp; try with_reducible rfl)
      try simp only [List.getElem_toArray, List.getElem_cons_succ, List.getElem_cons_zero, Act.put, List.setIfInBounds_toArray, List.set_cons_succ, List.set_cons_zero]
      refine wpAnyH_ready (rs := [3]) (by kernel_rfl) (by simp) (AllReadyH.cons rfl (fun K hK => ?_) AllReadyH.nil)
      go_simp
      refine (from_call (HR.out.move (Fr.refl All wr).drew)).mono ?_
      rintro e w17 ⟨x, X0, m0, d0, X1, m1, d1, p', er', ev', rfl, t0, t1, hft, hrd, f17⟩
      obtain ⟨hxr, hpe, hdr⟩ := fromTo_at HRV.out HDK.out hft
      subst hxr
      obtain ⟨rfl, rfl⟩ := Prod.mk.inj hpe
      have HDR := Lib.hid hdr
      clear hpe hdr hft
      go_simp
      have hz : wr.drew.heap.size = wr.heap.size := rfl
      have F17 : Fr (fun b => b ≠ R) wr w17 := (Fr.refl _ wr).drew.trans f17
      have HRD := Lib.hid hrd.nil_
      have BC17 := (F17.block _ (blk_lt HBC.out) (by show Bc ≠ R; omega)).trans HBC.out
      refine hK.out _ _ ((blk_cells BC17).1 7) (fun hHeld => ?_)
      clear hK K
      try simp only [List.getElem_toArray, List.getElem_cons_succ, List.getElem_cons_zero, Act.put, List.setIfInBounds_toArray, List.set_cons_succ, List.set_cons_zero]
      refine wpAnyH_ready (rs := [4]) (by kernel_rfl) (by simp) (AllReadyH.cons rfl (fun K hK => ?_) AllReadyH.nil)
      go_simp
      have F18 := (Fr.refl All w17).alloc (.cells #[.int .i64 x.lsn, .int .i64 x.back, .int .i64 x.epoch, .int .i64 x.group, .int .i64 x.page, .int .i64 x.kind, .int .i64 x.slot, .slice X0 m0 d0, .slice X1 m1 d1, .bool x.last] 36)
      have BC18 := (F18.block _ (blk_lt BC17) trivial).trans BC17
      refine hK.out _ _ ((blk_cells BC18).1 7) (fun hHeld => ?_)
      clear hK K
      try simp only [List.getElem_toArray, List.getElem_cons_succ, List.getElem_cons_zero, Act.put, List.setIfInBounds_toArray, List.set_cons_succ, List.set_cons_zero]
      have hol := own_lt HO.out
      have O17 : Own kRedo 36 w15.heap.size (From w15.heap.size) w17 (.slice RA k rc) xs := HO.out.move F17 (fun b (hb : w15.heap.size ≤ b) _ => by show b ≠ R; omega) (fun q hq => by have := (hol q hq).1; show q ≠ R; omega)
      have O18 := O17.all F18
      have HY := Src.box (d := kRedo) (x := x) (kRedo_mk t0 t1) 36 1
      change Src kRedo _ (w17.alloc (.cells #[.int .i64 x.lsn, .int .i64 x.back, .int .i64 x.epoch, .int .i64 x.group, .int .i64 x.page, .int .i64 x.kind, .int .i64 x.slot, .slice X0 m0 d0, .slice X1 m1 d1, .bool x.last] 36)) _ _ at HY
      have hxl : xs.length = k := by rw [HX.out, List.length_take, HRN.out]; omega
      refine wpAnyH_ready (rs := [5]) (by kernel_rfl) (by simp) (AllReadyH.cons rfl (fun K hK => ?_) AllReadyH.nil)
      refine wp_app rfl Tryd.underlying54 infoRedo rfl (by decide) O18 HY rfl rfl (fun b (hb : wr.drew.heap.size ≤ b) _ => ⟨by show w15.heap.size ≤ b; omega, fun e => by have := (hol b e.symm).2; omega⟩) (by simp only [List.length_singleton]; omega) (by have := F17.size; have := F18.size; omega) ?_
      intro v19 w19 o19 f19 h19
      have hl19 : (xs ++ [x]).length = k + 1 := by rw [List.length_append, List.length_singleton, hxl]
      obtain ⟨RA9, rc9, hv9⟩ := o19.length
      rw [hl19] at hv9
      subst hv9
      have hBo : But (Value.slice RA k rc).ownBlock Bc := fun hh => by have := (hol _ hh.symm).1; omega
      have BC19 := (f19.block _ (blk_lt BC18) hBo).trans BC18
      refine hK.out _ _ ((blk_cells BC19).1 7) (fun hHeld => ?_)
      clear hK K
      try simp only [List.getElem_toArray, List.getElem_cons_succ, List.getElem_cons_zero, Act.put, List.setIfInBounds_toArray, List.set_cons_succ, List.set_cons_zero]
      refine wpAnyH_take (i := 6) (v := ?_) rfl (by kernel_rfl) (by kernel_rfl) (by kernel_rfl) (fun _ _ _ h => h) (Or.inl ⟨by rfl, ?_⟩) (by assumption) ?_
      rotate_left
      · (intro w hSw; (try dsimp only at hSw); go_simp; try with_reducible rfl)
      try simp only [List.getElem_toArray, List.getElem_cons_succ, List.getElem_cons_zero, Act.put, List.setIfInBounds_toArray, List.set_cons_succ, List.set_cons_zero]
      have e7 : w19.cell? ⟨Bc, 7, none⟩ = some (.slice RA k rc) := (blk_cells BC19).1 7
      have ez := (blk_cells BC19).2
      have HO19 := Lib.hid o19
      have HBC19 := Lib.hid BC19
      have HSLa : Hid (Sl kByte (fun b => b ≠ R ∧ b ≠ Bc ∧ b < w15.heap.size) w19 (.slice A bs.length m) bs) := Lib.hid (((HSL.out.move' F17 (fun b hb _ => hb.1)).all F18).move' f19 (fun b hb _ hh => by have := (hol _ hh.symm).1; have := hb.2.2; omega))
      have HFa : Hid (Fr All w w19) := Lib.hid (((HF.out.newest (by omega) F17).trans F18).row f19.grown (fun q hq => by have := (hol q hq).1; have := HW15.out; omega))
      have HB0a : Hid (w19.heap[w.heap.size]? = some (.cells #[.int .i64 0, .int .i64 0, .int .i64 0, .int .i64 0, .bool false, .int .i64 0, .slice none 0 0, .slice none 0 0, .bool false] 64 (0, 0))) := Lib.hid (by
        have b1 := (F17.block _ (blk_lt HB0.out) (by show w.heap.size ≠ R; omega)).trans HB0.out
        have b2 := (F18.block _ (blk_lt b1) trivial).trans b1
        exact (f19.block _ (blk_lt b2) (fun hh => by have := (hol _ hh.symm).1; have := HW15.out; omega)).trans b2)
      have hs19 : w15.heap.size ≤ w19.heap.size := by have := F17.size; have := F18.size; have := f19.size; omega
      have HRa : Hid (Fr All _ w19) := Lib.hid (((hrd.fr.trans F18).row f19.grown (fun q hq => by have := (hol q hq).1; have := HW15.out; simp only [World.size_alloc]; omega)))
      have HFs : Hid (Fr (fun b => b ≠ Bc ∧ some b ≠ (Value.slice RA k rc).ownBlock) w17 w19) := Lib.hid ((F18.mono fun _ _ => trivial).trans (f19.mono fun b hb => hb.2))
      have HRo : Hid (some R ≠ (Value.slice RA k rc).ownBlock) := Lib.hid (fun hh => by have := (hol _ hh.symm).1; omega)
      clear O17 O18 HY BC17 BC18 BC19 o19 f19 h19 F17 F18 f17 hHeld hBo hrd t0 t1 HO HR HB0 HF HSL HBC hol
      refine wpAnyH_done (by kernel_rfl) ?_ _
      show wpList _ _ _ _ _ _
      go_wp2_with fail
      go_roundw
      case rel =>
        have gB : Fr (fun b => b ≠ Bc) w19 (w19.setCell ⟨Bc, 7, none⟩ (.slice RA9 (k + 1) rc9)) := (Fr.refl _ _).setCell (fun m hm => by exact hm) _
        have HSLb := HSLa.out.move' gB (fun b hb _ => hb.2.1)
        refine ⟨k + 1, RA9, rc9, p + (redoBytes x).length, xs ++ [x], by omega, by go_num, Lib.hid ?_, Lib.hid HDR.out, Lib.hid (heap_setCell_same _ _ 7 _ _ _ HBC19.out), Lib.hid (HO19.out.move gB (fun b (hb : w15.heap.size ≤ b) _ => by show b ≠ Bc; omega) (fun q hq => by have := (own_lt HO19.out q hq).1; show q ≠ Bc; omega)), Lib.hid ?_, Lib.hid ((gB.block _ (blk_lt HB0a.out) (by show w.heap.size ≠ Bc; omega)).trans HB0a.out), Lib.hid (HFa.out.newest (by omega) gB), Nat.le_trans hs19 gB.size, Lib.hid HSLb⟩
        · rw [take_snoc Hr.out, HX.out]
        · exact HRD.out.turn (S := fun b => b ≠ Bc ∧ some b ≠ (Value.slice RA k rc).ownBlock) (HFs.out.trans (gB.mono fun b hb => hb.1)) ⟨by omega, HRo.out⟩ (HRa.out.newest (by simp only [World.size_alloc]; omega) gB) (HSLb.mono fun b hb _ => hb.1)
      case measure => simp [Go.RowKit.intOf]; omega
    · have hkr : rn = k := by omega
      subst hkr
      have hend : ((bs.length : Int) - (p : Int)) = 0 := by
        have h1 := HD.out
        rw [show c.recs.drop rn = [] from List.drop_of_length_le (by rw [HRN.out]; exact Nat.le_refl _)] at h1
        have h2 := List.drop_eq_nil_iff.1 (show bs.drop p = [] from h1)
        have h3 := HR.out.pos_le
        omega
      have HEND := Lib.hid hend
      have hnn : decide (((rn - rn : Nat) : Int) > 0) = false := decide_eq_false (by omega)
      clear hend hlt
      go_upto_region 14 with fail
      clear hnn
      have e0 : wr.cell? ⟨Bc, 0, none⟩ = some (.int .i64 c.kind) := (blk_cells HBC.out).1 0
      have e1 : wr.cell? ⟨Bc, 1, none⟩ = some (.int .i64 c.promise) := (blk_cells HBC.out).1 1
      have e2 : wr.cell? ⟨Bc, 2, none⟩ = some (.int .i64 c.installed) := (blk_cells HBC.out).1 2
      have e3 : wr.cell? ⟨Bc, 3, none⟩ = some (.int .i64 c.inc) := (blk_cells HBC.out).1 3
      have e4 : wr.cell? ⟨Bc, 4, none⟩ = some (.bool c.whole) := (blk_cells HBC.out).1 4
      have e5 : wr.cell? ⟨Bc, 5, none⟩ = some (.int .i64 c.floor) := (blk_cells HBC.out).1 5
      have e6 : wr.cell? ⟨Bc, 6, none⟩ = some (.slice none 0 0) := (blk_cells HBC.out).1 6
      have e7 : wr.cell? ⟨Bc, 7, none⟩ = some (.slice RA rn rc) := (blk_cells HBC.out).1 7
      have e8 : wr.cell? ⟨Bc, 8, none⟩ = some (.bool false) := (blk_cells HBC.out).1 8
      have y0 : wr.cell? ⟨w.heap.size, 0, none⟩ = some (.int .i64 0) := (blk_cells HB0.out).1 0
      have y1 : wr.cell? ⟨w.heap.size, 1, none⟩ = some (.int .i64 0) := (blk_cells HB0.out).1 1
      have y2 : wr.cell? ⟨w.heap.size, 2, none⟩ = some (.int .i64 0) := (blk_cells HB0.out).1 2
      have y3 : wr.cell? ⟨w.heap.size, 3, none⟩ = some (.int .i64 0) := (blk_cells HB0.out).1 3
      have y4 : wr.cell? ⟨w.heap.size, 4, none⟩ = some (.bool false) := (blk_cells HB0.out).1 4
      have y5 : wr.cell? ⟨w.heap.size, 5, none⟩ = some (.int .i64 0) := (blk_cells HB0.out).1 5
      have y6 : wr.cell? ⟨w.heap.size, 6, none⟩ = some (.slice none 0 0) := (blk_cells HB0.out).1 6
      have y7 : wr.cell? ⟨w.heap.size, 7, none⟩ = some (.slice none 0 0) := (blk_cells HB0.out).1 7
      have y8 : wr.cell? ⟨w.heap.size, 8, none⟩ = some (.bool false) := (blk_cells HB0.out).1 8
      have yz := (blk_cells HB0.out).2
      have hne : Bc ≠ w.heap.size := by have := HW15.out; omega
      refine wp_region_all (S := fun w' => w'.cell? ⟨Bc, 0, none⟩ = some (.int .i64 c.kind) ∧ w'.cell? ⟨Bc, 1, none⟩ = some (.int .i64 c.promise) ∧ w'.cell? ⟨Bc, 2, none⟩ = some (.int .i64 c.installed) ∧ w'.cell? ⟨Bc, 3, none⟩ = some (.int .i64 c.inc) ∧ w'.cell? ⟨Bc, 4, none⟩ = some (.bool c.whole) ∧ w'.cell? ⟨Bc, 5, none⟩ = some (.int .i64 c.floor) ∧ w'.cell? ⟨Bc, 6, none⟩ = some (.slice none 0 0) ∧ w'.cell? ⟨Bc, 7, none⟩ = some (.slice RA rn rc) ∧ w'.cell? ⟨Bc, 8, none⟩ = some (.bool false)) (by kernel_rfl) ⟨e0, e1, e2, e3, e4, e5, e6, e7, e8⟩ (fun hHeld => ?_)
      refine wpAnyH_take (i := 0) (v := ?_) rfl (by kernel_rfl) (by kernel_rfl) (by kernel_rfl) (fun _ _ _ h => h) (Or.inl ⟨by rfl, ?_⟩) (by assumption) ?_
      rotate_left
      · (intro w hSw; (try dsimp only at hSw); go_simp; try with_reducible rfl)
      try simp only [List.getElem_toArray, List.getElem_cons_succ, List.getElem_cons_zero, Act.put, List.setIfInBounds_toArray, List.set_cons_succ, List.set_cons_zero]
      refine wpAnyH_take (i := 1) (v := ?_) rfl (by kernel_rfl) (by kernel_rfl) (by kernel_rfl) (fun _ _ _ h => h) (Or.inl ⟨by rfl, ?_⟩) (by assumption) ?_
      rotate_left
      · (intro w hSw; (try dsimp only at hSw); go_simp; try with_reducible rfl)
      try simp only [List.getElem_toArray, List.getElem_cons_succ, List.getElem_cons_zero, Act.put, List.setIfInBounds_toArray, List.set_cons_succ, List.set_cons_zero]
      refine wpAnyH_ready (rs := [2]) (by kernel_rfl) (by simp) (AllReadyH.cons rfl (fun K hK => ?_) AllReadyH.nil)
      go_simp
      refine (err_call (HR.out.move (Fr.refl All wr).drew)).mono ?_
      rintro e w17 ⟨rfl, hw17⟩
      obtain rfl := hw17.symm
      clear hw17
      go_simp
      refine hK.out _ _ ⟨e0, e1, e2, e3, e4, e5, e6, e7, e8⟩ (fun hHeld => ?_)
      clear hK K
      try simp only [List.getElem_toArray, List.getElem_cons_succ, List.getElem_cons_zero, Act.put, List.setIfInBounds_toArray, List.set_cons_succ, List.set_cons_zero]
      refine wpAnyH_take (i := 3) (v := ?_) rfl (by kernel_rfl) (by kernel_rfl) (by kernel_rfl) (fun _ _ _ h => h) (Or.inl ⟨by rfl, ?_⟩) (by assumption) ?_
      rotate_left
      · (intro w hSw; (try dsimp only at hSw); go_simp; try with_reducible rfl)
      try simp only [List.getElem_toArray, List.getElem_cons_succ, List.getElem_cons_zero, Act.put, List.setIfInBounds_toArray, List.set_cons_succ, List.set_cons_zero]
      refine wpAnyH_take (i := 4) (v := ?_) rfl (by kernel_rfl) (by kernel_rfl) (by kernel_rfl) (fun _ _ _ h => h) (Or.inl ⟨by rfl, ?_⟩) (by assumption) ?_
      rotate_left
      · (intro w hSw; (try dsimp only at hSw); go_simp; try with_reducible rfl)
      try simp only [List.getElem_toArray, List.getElem_cons_succ, List.getElem_cons_zero, Act.put, List.setIfInBounds_toArray, List.set_cons_succ, List.set_cons_zero]
      refine wpAnyH_take (i := 5) (v := ?_) rfl (by kernel_rfl) (by kernel_rfl) (by kernel_rfl) (fun _ _ _ h => h) (Or.inl ⟨by rfl, ?_⟩) (by assumption) ?_
      rotate_left
      · (intro w hSw; (try dsimp only at hSw); go_simp; try with_reducible rfl)
      try simp only [List.getElem_toArray, List.getElem_cons_succ, List.getElem_cons_zero, Act.put, List.setIfInBounds_toArray, List.set_cons_succ, List.set_cons_zero]
      refine wpAnyH_ready (rs := [6]) (by kernel_rfl) (by simp) (AllReadyH.cons rfl (fun K hK => ?_) AllReadyH.nil)
      go_simp
      refine (left_call (HR.out.move (Fr.refl All wr).drew)).mono ?_
      rintro e w18 ⟨rfl, q18, rfl⟩
      rw [HEND.out]
      go_simp
      refine hK.out _ _ ⟨e0, e1, e2, e3, e4, e5, e6, e7, e8⟩ (fun hHeld => ?_)
      clear hK K
      try simp only [List.getElem_toArray, List.getElem_cons_succ, List.getElem_cons_zero, Act.put, List.setIfInBounds_toArray, List.set_cons_succ, List.set_cons_zero]
      refine wpAnyH_take (i := 7) (v := ?_) rfl (by kernel_rfl) (by kernel_rfl) (by kernel_rfl) (fun _ _ _ h => h) (Or.inl ⟨by rfl, ?_⟩) (by assumption) ?_
      rotate_left
      · (intro w hSw; (try dsimp only at hSw); go_simp; try with_reducible rfl)
      try simp only [List.getElem_toArray, List.getElem_cons_succ, List.getElem_cons_zero, Act.put, List.setIfInBounds_toArray, List.set_cons_succ, List.set_cons_zero]
      refine wpAnyH_take (i := 8) (v := ?_) rfl (by kernel_rfl) (by kernel_rfl) (by kernel_rfl) (fun _ _ _ h => h) (Or.inl ⟨by rfl, ?_⟩) (by assumption) ?_
      rotate_left
      · (intro w hSw; (try dsimp only at hSw); go_simp; try with_reducible rfl)
      try simp only [List.getElem_toArray, List.getElem_cons_succ, List.getElem_cons_zero, Act.put, List.setIfInBounds_toArray, List.set_cons_succ, List.set_cons_zero]
      refine wpAnyH_ready (rs := [9]) (by kernel_rfl) (by simp) (AllReadyH.cons rfl (fun K hK => ?_) AllReadyH.nil)
      go_simp
      refine hK.out _ _ ⟨by go_simp, by go_simp, by go_simp, by go_simp, by go_simp, by go_simp, by go_simp, by go_simp, by go_simp⟩ (fun hHeld => ?_)
      clear hK K
      try simp only [List.getElem_toArray, List.getElem_cons_succ, List.getElem_cons_zero, Act.put, List.setIfInBounds_toArray, List.set_cons_succ, List.set_cons_zero]
      refine wpAnyH_take (i := 10) (v := ?_) rfl (by kernel_rfl) (by kernel_rfl) (by kernel_rfl) (fun _ _ _ h => h) (Or.inl ⟨by rfl, ?_⟩) (by assumption) ?_
      rotate_left
      · (intro w hSw; (try dsimp only at hSw); go_simp; try with_reducible rfl)
      try simp only [List.getElem_toArray, List.getElem_cons_succ, List.getElem_cons_zero, Act.put, List.setIfInBounds_toArray, List.set_cons_succ, List.set_cons_zero]
      refine wpAnyH_done (by kernel_rfl) ?_ _
      go_wp2_with fail
      refine bodyPost_ret (v := .tuple #[.agg #[.int .i64 c.kind, .int .i64 c.promise, .int .i64 c.installed, .int .i64 c.inc, .bool c.whole, .int .i64 c.floor, .slice none 0 0, .slice RA rn rc, .bool false], .bool true]) ?_ rfl ?_
      · simp [results, Tryd.results41, go_sem, y0, y1, y2, y3, y4, y5, y6, y7, y8]
      generalize hg : ((((((((((wr.drewN (1 + q18)).setCell ⟨w.heap.size, 0, none⟩ (.int .i64 c.kind)).setCell ⟨w.heap.size, 1, none⟩ (.int .i64 c.promise)).setCell ⟨w.heap.size, 2, none⟩ (.int .i64 c.installed)).setCell ⟨w.heap.size, 3, none⟩ (.int .i64 c.inc)).setCell ⟨w.heap.size, 4, none⟩ (.bool c.whole)).setCell ⟨w.heap.size, 5, none⟩ (.int .i64 c.floor)).setCell ⟨w.heap.size, 6, none⟩ (.slice none 0 0)).setCell ⟨w.heap.size, 7, none⟩ (.slice RA rn rc)).setCell ⟨w.heap.size, 8, none⟩ (.bool false)) = U
      have hU : Fr (fun b => b ≠ w.heap.size) wr U := by
        rw [← hg]
        repeat (first | (with_reducible exact Fr.refl _ _) | with_reducible refine Fr.drewN ?_ _ | with_reducible refine Fr.setCell ?_ (fun m hm => by exact hm) _)
      have hsl : Sl kRedo (From w15.heap.size) wr (.slice RA rn rc) xs := HO.out.sl_in (fun b hb _ => hb) (fun b hb _ => hb)
      have hxs : xs = c.recs := by rw [HX.out, List.take_of_length_le (by rw [HRN.out]; exact Nat.le_refl _)]
      rw [hxs] at hsl
      have hw15 := HW15.out
      refine ⟨RA, rc, by rw [HRN.out], ?_, HF.out.newest (Nat.le_refl _) hU⟩
      rw [HRN.out]
      exact (hsl.move' hU fun b (hb : w15.heap.size ≤ b) _ => by show b ≠ w.heap.size; omega).mono fun b (hb : w15.heap.size ≤ b) _ => by show w.heap.size ≤ b; omega
end Go.Proofs.YteclgcnndjcmmaaDoor
