/- The reader: its state in memory; fail, Num. -/
import Derived.Test.YteclgcnndjcmmaaDoorNumber
namespace Go.Proofs.YteclgcnndjcmmaaDoor
open Go.RowKit

/-- The error that a reader has: none, or one with its place. -/
def ErrVal (w : World) (qs : List Addr) (R : Nat) : Option (Nat × Nat) → Value → Prop
  | none, ev => ev = .nilIface
  | some (x, p), ev => ∃ (a : Addr) (b : Nat), qs[x]? = some a ∧ b ≠ R ∧ b < w.heap.size ∧ ev = .iface 131 (.pointer (some ⟨b, 0, none⟩)) ∧ w.cell? ⟨b, 0, none⟩ = some (.int .i64 p) ∧ w.cell? ⟨b, 1, none⟩ = some (errV a)
theorem ErrVal.move {w w' : World} {qs : List Addr} {R : Nat} {er : Option (Nat × Nat)} {ev : Value} (h : ErrVal w qs R er ev) (hf : Fr (fun b => b ≠ R) w w') : ErrVal w' qs R er ev := by
  cases er with
  | none => exact h
  | some x =>
    obtain ⟨a, b, h1, h2, h3, h4, h5, h6⟩ := h
    exact ⟨a, b, h1, h2, Nat.lt_of_lt_of_le h3 hf.size, h4, hf.cell (p := ⟨b, 0, none⟩) h2 h5, hf.cell (p := ⟨b, 1, none⟩) h2 h6⟩

/-- A reader at block R, made since the world w0. -/
structure Rd (w0 : World) (qs : List Addr) (R : Nat) (bs : List UInt8) (A : Option Addr) (n c : Nat) (w : World) (pos : Nat) (er : Option (Nat × Nat)) (ev : Value) : Prop where
  errs : Errs w0 qs
  fr : Fr All w0 w
  new : w0.heap.size ≤ R
  lt : R < w.heap.size
  k0 : w.cell? ⟨R, 0, none⟩ = some (.slice A n c)
  k1 : w.cell? ⟨R, 1, none⟩ = some (.int .i64 pos)
  k2 : w.cell? ⟨R, 2, none⟩ = some ev
  kz : ∀ j, w.frozen? ⟨R, j, none⟩ = false
  sl : Sl kByte (fun b => b ≠ R) w (.slice A n c) bs
  small : n ≤ 1000000
  pos_le : pos ≤ n
  err : ErrVal w qs R er ev
section
variable {w0 : World} {qs : List Addr} {R n c pos : Nat} {bs : List UInt8} {A : Option Addr} {w w' : World} {er : Option (Nat × Nat)} {ev : Value}
theorem Rd.move (h : Rd w0 qs R bs A n c w pos er ev) (hf : Fr All w w') : Rd w0 qs R bs A n c w' pos er ev where
  errs := h.errs
  fr := h.fr.trans hf
  new := h.new
  lt := Nat.lt_of_lt_of_le h.lt hf.size
  k0 := hf.cell (p := ⟨R, 0, none⟩) trivial h.k0
  k1 := hf.cell (p := ⟨R, 1, none⟩) trivial h.k1
  k2 := hf.cell (p := ⟨R, 2, none⟩) trivial h.k2
  kz := fun j => (World.frozen?_of_block (a := ⟨R, j, none⟩) (hf.block _ h.lt trivial)).trans (h.kz j)
  sl := h.sl.all hf
  small := h.small
  pos_le := h.pos_le
  err := h.err.move (hf.mono fun _ _ => trivial)
theorem Rd.len (h : Rd w0 qs R bs A n c w pos er ev) : bs.length = n := h.sl.len

/-- fail: the error, with the place at hand. -/
theorem fail_call {x : Nat} {a : Addr} (h : Rd w0 qs R bs A n c w pos er ev) (ha : qs[x]? = some a) :
    Calls Tryd.prog 88 #[.pointer (some ⟨R, 0, none⟩), errV a] w fun e w' => e = .returned (.tuple #[]) ∧ ∃ ev', Rd w0 qs R bs A n c w' pos (some (x, pos)) ev' ∧ Fr (fun b => b ≠ R) w w' := by
  have k0 := h.k0
  have k1 := h.k1
  have k2 := h.k2
  have kz := h.kz
  have hlt := h.lt
  have H := Lib.hid h
  have Ha := Lib.hid ha
  clear h ha
  unfold errV
  go_enter Tryd.func88, Tryd.ntmps88
  go_wp2_with fail
  go_end0
  have hs : (w.setCell ⟨R, 2, none⟩ (.iface 131 (.pointer (some ⟨w.heap.size, 0, none⟩)))).heap.size = w.heap.size := by simp [World.setCell]
  have hF1 : Fr (fun b => b ≠ R) w (w.setCell ⟨R, 2, none⟩ (.iface 131 (.pointer (some ⟨w.heap.size, 0, none⟩)))) := (Fr.refl _ _).setCell (fun m hm => by exact hm) _
  have B := heap_alloc_new (w.setCell ⟨R, 2, none⟩ (.iface 131 (.pointer (some ⟨w.heap.size, 0, none⟩)))) (.cells #[.int .i64 pos, errV a] 135)
  have hF2 : Fr All (w.setCell ⟨R, 2, none⟩ (.iface 131 (.pointer (some ⟨w.heap.size, 0, none⟩)))) ((w.setCell ⟨R, 2, none⟩ (.iface 131 (.pointer (some ⟨w.heap.size, 0, none⟩)))).alloc (.cells #[.int .i64 pos, errV a] 135)) := (Fr.refl All _).alloc _
  rw [hs] at B
  obtain ⟨b0, b1, _⟩ := blk2 B
  have h := H.out
  refine ⟨rfl, _, ⟨h.errs, (h.fr.setNew (p := ⟨R, 2, none⟩) h.new _).alloc _, h.new, Nat.lt_of_lt_of_le hlt (Nat.le_trans hF1.size hF2.size), hF2.cell (p := ⟨R, 0, none⟩) trivial ?_, hF2.cell (p := ⟨R, 1, none⟩) trivial ?_, hF2.cell (p := ⟨R, 2, none⟩) trivial ?_, ?_, (h.sl.move hF1).all hF2, h.small, h.pos_le, ⟨a, w.heap.size, Ha.out, by omega, ?_, rfl, b0, b1⟩⟩, hF1.trans (hF2.mono fun _ _ => trivial)⟩
  · go_simp
  · go_simp
  · go_simp
  · intro j
    refine (World.frozen?_of_block (a := ⟨R, j, none⟩) (hF2.block R (by rw [hs]; exact hlt) trivial)).trans ?_
    go_simp
  · exact blk_lt B
end

/-- What Num does: its answer, the place, the error. -/
def stNum (low high : Int) (bs : List UInt8) (s : Nat × Option (Nat × Nat)) : Int × Nat × Option (Nat × Nat) :=
  match s.2 with
  | some e => (0, s.1, some e)
  | none => match numGo (bs.drop s.1) 0 0 with
    | .error x => (0, s.1, some (x, s.1))
    | .ok x => if zag x.1 < low ∨ high < zag x.1 then (0, s.1, some (4, s.1)) else (zag x.1, s.1 + x.2, none)

/-- An answer, with the reader behind it. -/
def RdTo (w0 : World) (qs : List Addr) (R : Nat) (bs : List UInt8) (A : Option Addr) (n c : Nat) (w : World) (st : Nat × Option (Nat × Nat)) (w' : World) : Prop :=
  ∃ ev, Rd w0 qs R bs A n c w' st.1 st.2 ev ∧ Fr (fun b => b ≠ R) w w'

section
variable {w0 : World} {qs : List Addr} {R n c pos : Nat} {bs : List UInt8} {A : Option Addr} {w w' : World} {er : Option (Nat × Nat)} {ev : Value}
theorem Rd.setPos (h : Rd w0 qs R bs A n c w pos er ev) {p2 : Nat} (hp : p2 ≤ n) {v : Value} (hv : v = .int .i64 p2) : Rd w0 qs R bs A n c (w.setCell ⟨R, 1, none⟩ v) p2 er ev ∧ Fr (fun b => b ≠ R) w (w.setCell ⟨R, 1, none⟩ v) := by
  subst hv
  have k0 := h.k0
  have k1 := h.k1
  have k2 := h.k2
  have kz := h.kz
  have hlt := h.lt
  have hF : Fr (fun b => b ≠ R) w (w.setCell ⟨R, 1, none⟩ (.int .i64 p2)) := (Fr.refl _ _).setCell (fun m hm => by exact hm) _
  refine ⟨⟨h.errs, h.fr.setNew (p := ⟨R, 1, none⟩) h.new _, h.new, Nat.lt_of_lt_of_le hlt hF.size, ?_, ?_, ?_, ?_, h.sl.move hF, h.small, hp, h.err.move hF⟩, hF⟩
  · go_simp
  · go_simp
  · go_simp
  · intro j
    go_simp

set_option maxRecDepth 100000 in
set_option maxHeartbeats 1000000 in
theorem num_some {x : Nat × Nat} (h : Rd w0 qs R bs A n c w pos (some x) ev) (low high : Int) :
    Calls Tryd.prog 64 #[.pointer (some ⟨R, 0, none⟩), .int .i64 low, .int .i64 high] w fun e w' => e = .returned (.int .i64 0) ∧ w' = w := by
  have k2 := h.k2
  obtain ⟨a, b, _, _, _, rfl, _⟩ := h.err
  clear h
  go_enter Tryd.func64, Tryd.ntmps64
  go_wp2_with fail
  go_ret
  exact ⟨rfl, rfl⟩

set_option maxRecDepth 100000 in
set_option maxHeartbeats 1000000 in
theorem num_call (h : Rd w0 qs R bs A n c w pos er ev) (low high : Int) :
    Calls Tryd.prog 64 #[.pointer (some ⟨R, 0, none⟩), .int .i64 low, .int .i64 high] w fun e w' => e = .returned (.int .i64 (stNum low high bs (pos, er)).1) ∧ RdTo w0 qs R bs A n c w (stNum low high bs (pos, er)).2 w' := by
  cases er with
  | some x => exact (num_some h low high).mono fun e w' ⟨h1, h2⟩ => ⟨h1, ev, h2 ▸ h, h2 ▸ Fr.refl _ _⟩
  | none =>
    obtain ⟨st, hst⟩ : ∃ st, stNum low high bs (pos, none) = st := ⟨_, rfl⟩
    rw [hst]
    have Hst := Lib.hid hst
    clear hst
    have k2 := h.k2
    obtain rfl : ev = .nilIface := h.err
    have hN := number_call (h.errs.move h.fr) h.k0 h.k1 h.sl h.pos_le h.small
    have HN := Lib.hid hN
    have H := Lib.hid h
    clear hN h
    go_enter Tryd.func64, Tryd.ntmps64
    go_wp2_with fail
    refine HN.out.mono ?_
    rintro e w1 ⟨he, f1⟩
    have h1 := H.out.move f1
    have H1 := Lib.hid h1
    cases hres : numGo (bs.drop pos) 0 0 with
    | error x =>
      rw [hres] at he
      obtain ⟨a, ha, rfl⟩ := he
      have Ha := Lib.hid ha
      have es : st = (0, pos, some (x, pos)) := by
        rw [← Hst.out]
        simp [stNum, hres]
      have Es := Lib.hid es
      clear ha hres h1 es
      unfold errV
      go_wp2_with fail
      refine (fail_call H1.out Ha.out).mono ?_
      rintro e w2 ⟨rfl, ev2, h2, f2⟩
      go_wp2_with fail
      go_ret
      rw [Es.out]
      exact ⟨rfl, ev2, h2, (f1.mono fun _ _ => trivial).trans f2⟩
    | ok x =>
      obtain ⟨z, k⟩ := x
      rw [hres] at he
      obtain rfl := he
      obtain ⟨m, _, hk1, hk2, _⟩ := numGo_ok _ _ _ _ _ hres
      have hpk : pos + k ≤ n := by
        have := H.out.len
        have := H.out.pos_le
        rw [List.length_drop] at hk2
        omega
      have hn6 := H.out.small
      obtain ⟨aR, qR, gR⟩ := (h1.errs.move h1.fr).at 4 "sextet/api.ErrRange" 0 rfl (by kernel_rfl)
      have HQ := Lib.hid qR
      unfold errV at gR
      obtain ⟨v, hv⟩ : ∃ v, zag z = v := ⟨_, rfl⟩
      dsimp only
      have es : st = if v < low ∨ high < v then (0, pos, some (4, pos)) else (v, pos + k, none) := by
        rw [← Hst.out, ← hv]
        simp [stNum, hres]
      rw [hv]
      have Es := Lib.hid es
      clear hres hk1 hk2 qR hv es
      by_cases hlow : v < low
      · have hd : decide (v < low) = true := decide_eq_true hlow
        have es := Es.out
        rw [if_pos (Or.inl hlow)] at es
        have Es2 := Lib.hid es
        clear hlow es
        go_wp2_with fail
        refine (fail_call H1.out HQ.out).mono ?_
        rintro e w2 ⟨rfl, ev2, h2, f2⟩
        go_wp2_with fail
        go_ret
        rw [Es2.out]
        exact ⟨rfl, ev2, h2, (f1.mono fun _ _ => trivial).trans f2⟩
      · have hd : decide (v < low) = false := decide_eq_false hlow
        by_cases hhigh : high < v
        · have hd2 : decide (v > high) = true := decide_eq_true hhigh
          have es := Es.out
          rw [if_pos (Or.inr hhigh)] at es
          have Es2 := Lib.hid es
          clear hlow hhigh es
          go_wp2_with fail
          refine (fail_call H1.out HQ.out).mono ?_
          rintro e w2 ⟨rfl, ev2, h2, f2⟩
          go_wp2_with fail
          go_ret
          rw [Es2.out]
          exact ⟨rfl, ev2, h2, (f1.mono fun _ _ => trivial).trans f2⟩
        · have hd2 : decide (v > high) = false := decide_eq_false hhigh
          have es := Es.out
          rw [if_neg (by rintro (h | h) <;> contradiction)] at es
          have Es2 := Lib.hid es
          have k1 := h1.k1
          have k2 := h1.k2
          have kz := h1.kz
          have hw : IntKind.i64.wrap ((pos : Int) + (k : Int)) = (pos : Int) + (k : Int) := IntWalk.i64_in _ (by omega)
          clear hlow hhigh h1 gR es
          go_wp2_with fail
          go_ret
          obtain ⟨h2, f2⟩ := H1.out.setPos hpk (v := .int .i64 ((pos : Int) + (k : Int))) rfl
          rw [Es2.out]
          exact ⟨rfl, .nilIface, h2, (f1.mono fun _ _ => trivial).trans f2⟩
end
end Go.Proofs.YteclgcnndjcmmaaDoor
