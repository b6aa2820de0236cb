/- copy into a row of one's own, of elements of any size; what two copies leave in the row of slices.Insert. -/
import Derived.Test.YteclgcnndjcmmaaDoorW
import Derived.Laws.CopyOwn
import Derived.Lib.AppendZerosOnto
import Derived.Lib.Overlaps
namespace Go.Proofs.YteclgcnndjcmmaaDoor
open Go.RowKit

theorem run_copy_sz {P : Program} (w : World) (dT sT ty elem : TypeId) (size g o dLen dCap : Nat) (b off sLen sCap : Nat) (cur : Array Value) (t : TypeId) (cs : List Value)
    (hu : P.underlying dT = some (.slice elem)) (hs : (P.info? elem).map (·.size) = some size)
    (hg : w.heap[g]? = some (.cells cur t (0, 0))) (hn : cs.length = Nat.min sLen dLen * size)
    (hsrc : ∀ j v, cs[j]? = some v → w.cell? ⟨b, off + j, none⟩ = some v) (hfit : o + cs.length ≤ cur.size) (h1 : ∀ v ∈ cs, v.oneCell' = true) :
    (Builtin.copy_ #[dT, sT] ty #[.slice (some ⟨g, o, none⟩) dLen dCap, .slice (some ⟨b, off, none⟩) sLen sCap]).run P w =
      .ok (goInt (Nat.min sLen dLen)) (w.setRow g (splice cur.toList o cs).toArray) := by
  have hl := run_firstCells_some (P := P) w size (Nat.min sLen dLen) ⟨b, off, none⟩ sLen sCap cs hn (fun j v hj => by rw [addr_lit]; exact hsrc j v hj)
  have hst := run_storeCells_at P g o t cs 0 cur w hg (by simpa using hfit) h1
  cases hq : P.info? elem with
  | none => simp [hq] at hs
  | some i =>
    have hi : i.size = size := by simpa [hq] using hs
    simp only [Builtin.copy_, List.getElem?_toArray, List.getElem?_cons_zero, List.getElem?_cons_succ, Sem.run_bind, run_underlying hu, Result.andThen_ok, Builtin.lenOf, Sem.run_pure, sizeOf, typeInfo]
    simp [hq, hi, hl, hst, splice]
section
variable {P : Program} {ops : Array Oper} {rest : List Oper} {o : Oper} {a : Act} {w w' : World} {Q : Exit → Act → World → Prop}
theorem exec_copy {s x : Operand} {t t' : TypeId} {v y v' : Value} (ho : o.op = .call { callee := .builtin .copy, args := #[s, x], argTypes := #[t, t'] }) (hs : a.eval s = v) (hx : a.eval x = y)
    (hr : (Builtin.copy_ #[t, t'] o.type #[v, y]).run P w = .ok v' w') : (execOp a.eval o).run P w = .ok (.value v') w' := by
  unfold execOp
  simp only [ho, resolve, invoke, builtin, Sem.run_bind, Sem.run_pure, Result.andThen_ok, List.map_toArray, List.map_cons, List.map_nil, hs, hx, hr]
theorem wpList_copyrun {s x : Operand} {t t' : TypeId} {v y v' : Value} (hr : ∀ ty, (Builtin.copy_ #[t, t'] ty #[v, y]).run P w = .ok v' w') (hg : o.guard = none) (ho : o.op = .call { callee := .builtin .copy, args := #[s, x], argTypes := #[t, t'] }) (hs : a.eval s = v) (hx : a.eval x = y)
    (h : wpList P ops Q rest (a.put o.dst v') w') : wpList P ops Q (o :: rest) a w := wpList_run hg (exec_copy ho hs hx (hr _)) h
theorem wp_copyrun {K : Act → World → Prop} {s x : Operand} {t t' : TypeId} {v y v' : Value} (hr : ∀ ty, (Builtin.copy_ #[t, t'] ty #[v, y]).run P w = .ok v' w') (ho : o.op = .call { callee := .builtin .copy, args := #[s, x], argTypes := #[t, t'] }) (hs : a.eval s = v) (hx : a.eval x = y)
    (h : K (a.put o.dst v') w') : o.wp P a w K Q := wp_run (exec_copy ho hs hx (hr _)) h
theorem wpList_apprun {s x : Operand} {t t' : TypeId} {v y v' : Value} (hr : ∀ ty, (Builtin.append_ #[t, t'] ty #[v, y]).run P w = .ok v' w') (hg : o.guard = none) (ho : o.op = .call { callee := .builtin .append, args := #[s, x], argTypes := #[t, t'] }) (hs : a.eval s = v) (hx : a.eval x = y)
    (h : wpList P ops Q rest (a.put o.dst v') w') : wpList P ops Q (o :: rest) a w := wpList_run hg (exec_app ho hs hx (hr _)) h
end

section
variable {α : Type} {L cs nw : List α} {a z N : Nat}
theorem splice_at (L : List α) (o : Nat) (cs : List α) (j : Nat) (h : o + cs.length ≤ L.length) : (splice L o cs)[j]? = if j < o then L[j]? else if j < o + cs.length then cs[j - o]? else L[j]? := by
  unfold splice
  split
  · rw [List.getElem?_append_left (by rw [List.length_take]; omega), List.getElem?_take, if_pos (by assumption)]
  · rw [List.getElem?_append_right (by rw [List.length_take]; omega), List.length_take, Nat.min_eq_left (by omega)]
    split
    · rw [List.getElem?_append_left (by omega)]
    · rw [List.getElem?_append_right (by omega), List.getElem?_drop]; congr 1; omega
theorem target_at (ha : a ≤ cs.length) (hz : nw.length = z) (j : Nat) : (cs.take a ++ (nw ++ cs.drop a))[j]? = if j < a then cs[j]? else if j < a + z then nw[j - a]? else cs[j - z]? := by
  split
  · rw [List.getElem?_append_left (by rw [List.length_take]; omega), List.getElem?_take, if_pos (by assumption)]
  · rw [List.getElem?_append_right (by rw [List.length_take]; omega), List.length_take, Nat.min_eq_left (by omega)]
    split
    · rw [List.getElem?_append_left (by omega)]
    · rw [List.getElem?_append_right (by omega), List.getElem?_drop]; congr 1; omega
theorem insert_room (ha : a ≤ cs.length) (hN : cs.length = N) (hz : nw.length = z) (hL : N + z ≤ L.length) (hp : ∀ j, j < a → L[j]? = cs[j]?) :
    (splice (splice L (a + z) (cs.drop a)) a nw).take (N + z) = cs.take a ++ (nw ++ cs.drop a) := by
  have hd : (cs.drop a).length = N - a := by rw [List.length_drop, hN]
  have h1 : (splice L (a + z) (cs.drop a)).length = L.length := length_splice _ _ _ (by omega)
  apply List.ext_getElem?
  intro j
  rw [target_at ha hz, List.getElem?_take]
  by_cases hj : j < N + z
  · rw [if_pos hj, splice_at _ _ _ _ (by omega), splice_at _ _ _ _ (by omega), hz, hd]
    by_cases c1 : j < a
    · simp only [c1, if_true]
      rw [if_pos (by omega)]
      exact hp j c1
    · by_cases c2 : j < a + z
      · simp only [c1, c2, if_true, if_false]
      · simp only [c1, c2, if_false]
        rw [if_pos (by omega), List.getElem?_drop]; congr 1; omega
  · rw [if_neg hj, if_neg (by omega), if_neg (by omega), List.getElem?_eq_none (by omega)]
theorem insert_grow (ha : a ≤ cs.length) (hN : cs.length = N) (hz : nw.length = z) (hL : N + z ≤ L.length) (hp : ∀ j, j < a → L[j]? = cs[j]?) :
    (splice (splice L a nw) (a + z) (cs.drop a)).take (N + z) = cs.take a ++ (nw ++ cs.drop a) := by
  have hd : (cs.drop a).length = N - a := by rw [List.length_drop, hN]
  have h1 : (splice L a nw).length = L.length := length_splice _ _ _ (by omega)
  apply List.ext_getElem?
  intro j
  rw [target_at ha hz, List.getElem?_take]
  by_cases hj : j < N + z
  · rw [if_pos hj, splice_at _ _ _ _ (by omega), splice_at _ _ _ _ (by omega), hz, hd]
    by_cases c1 : j < a
    · simp only [c1, if_true]
      rw [if_pos (by omega)]
      exact hp j c1
    · by_cases c2 : j < a + z
      · simp only [c1, c2, if_true, if_false]
      · simp only [c1, c2, if_false]
        rw [if_pos (by omega), List.getElem?_drop]; congr 1; omega
  · rw [if_neg hj, if_neg (by omega), if_neg (by omega), List.getElem?_eq_none (by omega)]
end
end Go.Proofs.YteclgcnndjcmmaaDoor
