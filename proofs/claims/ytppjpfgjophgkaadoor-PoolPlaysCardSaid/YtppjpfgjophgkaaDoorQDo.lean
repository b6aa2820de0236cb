/- Things that a pool is told, as they come in. -/
import Derived.Test.YtppjpfgjophgkaaDoorIn
import Derived.Test.YtppjpfgjophgkaaDoorMg
import Derived.Deep.MidRow
import Derived.Deep.WholeRow
namespace Go.Proofs.YtppjpfgjophgkaaDoor
open Go.RowKit

/-- A number in its bounds. -/
def kNum : Kd Int where
  sz := 1
  K := fun _ _ x cs => cs = [.int .i64 x] ∧ In64 x
  pos := by decide
  len := fun h => by rw [h.1]; rfl
  one := fun h u hu => by
    rw [h.1, List.mem_singleton] at hu
    subst hu
    rfl
  move := fun h _ => h
  mono := fun _ h => h
structure DoP where
  kind : Int
  n : Int
  page : Page
  redo : Redo
def kDoP : Kd DoP := (kInt.pair (kNum.pair (kPage.pair kRedo))).iso fun d => (d.kind, d.n, d.page, d.redo)
theorem dop_at {S : Nat → Prop} {w : World} {A : Option Addr} {n c : Nat} {xs : List DoP} (h : Sl kDoP S w (.slice A n c) xs) {k : Nat} {x : DoP} (hi : xs[k]? = some x) :
    ∃ b o PA pn pc A0 n0 c0 A1 n1 c1, A = some ⟨b, o, none⟩ ∧ w.rangeAt b (o + k * 17) [.int .i64 x.kind, .int .i64 x.n, .int .i64 x.page.id, .int .i64 x.page.lsn, .int .i64 x.page.level, .int .i64 x.page.next, .slice PA pn pc, .int .i64 x.redo.lsn, .int .i64 x.redo.back, .int .i64 x.redo.epoch, .int .i64 x.redo.group, .int .i64 x.redo.page, .int .i64 x.redo.kind, .int .i64 x.redo.slot, .slice A0 n0 c0, .slice A1 n1 c1, .bool x.redo.last] ∧
      In64 x.n ∧ Sl kEnt S w (.slice PA pn pc) x.page.ents ∧ Sl kByte S w (.slice A0 n0 c0) x.redo.key ∧ Sl kByte S w (.slice A1 n1 c1) x.redo.val := by
  obtain ⟨A', c', he, _, _, hx⟩ := h
  injection he with ha _ _
  subst ha
  have hk : k < xs.length := (List.getElem?_eq_some_iff.1 hi).1
  obtain ⟨b, o, rfl, _, hr⟩ := hx (by omega)
  obtain ⟨cs, hc, hcell⟩ := hr k x hi
  obtain ⟨c1, r1, rfl, h1, c2, r2, rfl, ⟨h2, hn⟩, c3, c4, rfl, h3, h4⟩ := hc
  have h1' : c1 = [.int .i64 x.kind] := h1
  dsimp only at h2 h3 h4 hn
  subst h1'
  subst h2
  obtain ⟨v, rfl, hp⟩ := kPage_open h3
  obtain ⟨v0, v1, rfl, k0, k1⟩ := kRedo_open h4
  obtain ⟨PA, pn, pc, rfl, _⟩ := hp.open_
  obtain ⟨A0, n0, c0, rfl, _⟩ := k0.open_
  obtain ⟨A1, n1, c1, rfl, _⟩ := k1.open_
  exact ⟨b, o, PA, pn, pc, A0, n0, c0, A1, n1, c1, rfl, fun j v hv => hcell j v hv, hn, hp, k0, k1⟩
/-- A thing that is told, read out of the row. -/
theorem run_do_load {w : World} {b o : Nat} {cs : List Value} (h : w.rangeAt b o cs) (hl : cs.length = 17) : (Instr.loadAt 35 (.pointer (some ⟨b, o, none⟩))).run Tryd.prog w = .ok (.agg cs.toArray) w :=
  run_loadAt_mid w b o 35 cs _ h Tryd.underlying35 rfl (by rw [hl]; kernel_rfl)
theorem run_do_store (w : World) (c cs : Array Value) (hc : c.size = 17) (hl : cs.size = 17) (h1 : cs.all (·.oneCell') = true) : (Instr.storeAt 35 (.pointer (some ⟨w.heap.size, 0, none⟩)) (.agg cs)).run Tryd.prog (w.alloc (.cells c 35)) = .ok () (w.alloc (.cells cs 35)) :=
  run_storeAt_new w 35 c cs (by rw [hl]; kernel_rfl) (by omega) h1
theorem wp_store_new {P : Program} {op : Oper} {a : Act} {w : World} {K : Act → World → Prop} {Q : Exit → Act → World → Prop} (ty : TypeId) (x y : Operand) (ho : op.op = .store ty x y)
    (c cells : Array Value) (hx : a.eval x = .pointer (some ⟨w.heap.size, 0, none⟩)) (hy : a.eval y = .agg cells)
    (hi : (P.info? ty).map (·.size) = some cells.size) (hs : c.size = cells.size) (h1 : cells.all (·.oneCell') = true) (h : K (a.put op.dst undef) (w.alloc (.cells cells ty))) : op.wp P a (w.alloc (.cells c ty)) K Q := by
  unfold Oper.wp execOp
  simp only [ho, hx, hy, Instr.storeAt, Instr.sureAddr, Sem.run_bind, Sem.run_pure, Result.andThen_ok, run_storeVar_new w ty c cells hi hs h1]
  exact h
theorem wpList_store_new {P : Program} {ops : Array Oper} {rest : List Oper} {op : Oper} {a : Act} {w : World} {Q : Exit → Act → World → Prop} (hgd : op.guard = none) (ty : TypeId) (x y : Operand) (ho : op.op = .store ty x y)
    (c cells : Array Value) (hx : a.eval x = .pointer (some ⟨w.heap.size, 0, none⟩)) (hy : a.eval y = .agg cells)
    (hi : (P.info? ty).map (·.size) = some cells.size) (hs : c.size = cells.size) (h1 : cells.all (·.oneCell') = true) (h : wpList P ops Q rest (a.put op.dst undef) (w.alloc (.cells cells ty))) : wpList P ops Q (op :: rest) a (w.alloc (.cells c ty)) :=
  wpList_plain hgd fun _ hK => wp_store_new ty x y ho c cells hx hy hi hs h1 (hK _ _ h)
theorem opens_num {t : TypeId} (ht : Tryd.prog.underlying t = some (.int .i64)) : Opens kNum t := fun h => by
  obtain ⟨n, rfl, _, hw⟩ := DataW.trod_int ht h
  exact ⟨n, rfl, hw⟩
set_option maxRecDepth 100000 in
theorem topens_dop : Opens kDoP 35 := fun {H enc w fuel cs x} h => by
  obtain ⟨hl, n, hx⟩ := opens_fields Tryd.underlying35 h
  rw [show Tryd.prog.cellsOf 35 = 17 by kernel_rfl] at hl
  obtain ⟨_, h0⟩ := hx 0 _ rfl
  obtain ⟨_, h1⟩ := hx 1 _ rfl
  obtain ⟨_, h2⟩ := hx 2 _ rfl
  obtain ⟨_, h3⟩ := hx 3 _ rfl
  obtain ⟨y0, e0⟩ := opens_int (by kernel_rfl) h0
  obtain ⟨y1, e1, i1⟩ := opens_num (by kernel_rfl) h1
  obtain ⟨y2, k2⟩ := topens_page h2
  obtain ⟨y3, k3⟩ := topens_redo h3
  refine ⟨⟨y0, y1, y2, y3⟩, (cs.drop 0).take 1, cs.drop 1, ?_, e0, (cs.drop 1).take 1, cs.drop 2, ?_, ⟨e1, i1⟩, (cs.drop 2).take 5, (cs.drop 7).take 10, ?_, k2, k3⟩
  · rw [List.drop_zero, List.take_append_drop]
  · rw [show cs.drop 2 = (cs.drop 1).drop 1 by rw [List.drop_drop], List.take_append_drop]
  · rw [show (cs.drop 7).take 10 = cs.drop 7 by rw [List.take_of_length_le]; rw [List.length_drop]; omega, show cs.drop 7 = (cs.drop 2).drop 5 by rw [List.drop_drop], List.take_append_drop]
theorem topens_dops : Opens (kSl kDoP) 22 := opens_slice Tryd.underlying22 (by kernel_rfl) topens_dop
end Go.Proofs.YtppjpfgjophgkaaDoor
