/- hot.All's iterator: each record in turn, cloned. hot.Records, hot.All, hot.Get of what is not there. -/
import Derived.RangeFuncNested
import Derived.RangeFuncBound
import Derived.RangeFuncCalls
import Derived.RangeFuncLeaves
import Derived.Shelf.Abstract
import Derived.Shelf.RegionOpen
import Derived.WalkKit
import Derived.OwnWalkIn
import Derived.TacticsInMore
import Derived.LoopNIn
import Derived.LoopIn
import Derived.Test.YtoaamcpiljoojaaGreatDoorRClones
import Derived.Test.YtoaamcpiljoojaaGreatDoorVIx
import Derived.Test.YtoaamcpiljoojaaGreatDoorHg
import Derived.Test.YtoaamcpiljoojaaGreatDoorBs
namespace Go.Proofs.YtoaamcpiljoojaaGreatDoor
open Go.RowKit Go.Shelf
attribute [local go_sem] Oper.semAt_some

/-- A record as a value: where its bytes lie. -/
structure RV where
  r : Redo
  A0 : Option Addr
  n0 : Nat
  c0 : Nat
  A1 : Option Addr
  n1 : Nat
  c1 : Nat
def RV.val (x : RV) : Value := .agg #[.int .i64 x.r.lsn, .int .i64 x.r.back, .int .i64 x.r.epoch, .int .i64 x.r.group, .int .i64 x.r.page, .int .i64 x.r.kind, .int .i64 x.r.slot, .slice x.A0 x.n0 x.c0, .slice x.A1 x.n1 x.c1, .bool x.r.last]
theorem Fr.grown0 {w w' : World} (h : Fr All w w') : w.grownBy w' none := ⟨h.os, h.tape, h.output, h.size, fun b hb _ => h.block b hb trivial⟩

set_option maxRecDepth 100000 in
set_option maxHeartbeats 4000000 in
theorem all1_stops (n : Nat) (hn : 2 ≤ n) (S : Nat → Prop) (Bs : Nat) (Ab : Option Addr) (len cap : Nat) (zs : List Redo) (w : World) (hlen : zs.length = len) (hfew : len ≤ 1000000) (hB : S Bs) (hBs : w.cell? ⟨Bs, 0, none⟩ = some (.slice Ab len cap)) (hs : Sl kRedo S w (.slice Ab len cap) zs) (ok : ∀ r ∈ zs, r.key.length ≤ 1000000 ∧ r.val.length ≤ 1000000) :
    SeqStopsK Fence.wide n Tryz.prog 107 #[.pointer (some ⟨Bs, 0, none⟩)] (fun x : RV => #[x.val]) (Fr S) (fun xs => xs.map RV.r = zs) (fun pre => ∃ k, k ≤ len ∧ pre.map RV.r = zs.take k) len w := by
  intro l J Jx W hW hJ hJx hY h0
  have HS := Lib.hid (hs.all (Fr.of_below_all hW))
  have hBs' := (Fr.of_below_all hW).cell trivial hBs
  have HL := Lib.hid hlen
  clear hs hlen hBs
  refine callsIn_of_wp Tryz.func107 rfl trivial ?_ rfl
  simp only [Tryz.ntmps107, List.size_toArray, List.length_cons, List.length_nil, Nat.reduceAdd, Nat.reduceSub, Array.replicate_succ, Array.replicate_zero, List.push_toArray, List.append_toArray, List.nil_append, List.cons_append]
  gi_wp2
  gi_loopw [7] (fun i wr => ∃ (k : Nat) (ys : List RV), k ≤ len ∧ i = .int .i64 k ∧ Hid (ys.map RV.r = zs.take k) ∧ Hid (ys.length = k) ∧ J ys wr ∧ Fr S W wr) (fun i _ => len - (intOf i).toNat)
  case atStart => exact ⟨0, [], Nat.zero_le _, rfl, Lib.hid rfl, Lib.hid rfl, h0, Fr.refl _ _⟩
  case round =>
    obtain ⟨k, ys, hk, rfl, HY, HYL, hJs, hnx⟩ := hrel
    by_cases hlt : k < len
    · obtain ⟨x, hx, hxm⟩ := get_of (l := zs) (k := k) (by rw [HL.out]; exact hlt)
      obtain ⟨b, o, A0, m0, c0, A1, m1, c1, rfl, g0, g1, g2, g3, g4, g5, g6, g7, g8, g9, t0, t1⟩ := redo_at (HS.out.move hnx) hx
      have hbs := hnx.cell (p := ⟨Bs, 0, none⟩) hB hBs'
      have hok := ok x hxm
      have HX := Lib.hid hx
      have b0 : (0 : Int) ≤ (k : Int) := by omega
      have b1 : (k : Int) < (len : Int) := by omega
      have F1 := (Fr.refl All wr).alloc (.cells #[.int .i64 x.lsn, .int .i64 x.back, .int .i64 x.epoch, .int .i64 x.group, .int .i64 x.page, .int .i64 x.kind, .int .i64 x.slot, .slice A0 m0 c0, .slice A1 m1 c1, .bool x.last] 33)
      clear hx hxm
      gi_wp2
      refine ⟨trivial, fun h => by simp [Fence.wide] at h, ((callsIn_wide (n := n - 1)).2 (redo_clone (r := x) (t0.all F1) (t1.all F1) hok.1 hok.2)).mono ?_⟩
      rintro e w3 ⟨B0, k0, d0, B1, k1, d1, rfl, o0, o1, f3⟩
      have hJ3 : J ys w3 := hJ ys _ w3 none (hJ ys wr _ none hJs (Fr.grown0 F1) (fun r e => by cases e)) (Fr.grown0 f3) (fun r e => by cases e)
      obtain ⟨fn, tmps, assign, body, hy, hR⟩ := hY ys ⟨x, B0, k0, d0, B1, k1, d1⟩ w3 hJ3 (by rw [HYL.out]; exact hlt)
      have HB3 := Lib.hid (hnx.then_all (F1.trans f3))
      have HTK : Hid ((ys ++ [(⟨x, B0, k0, d0, B1, k1, d1⟩ : RV)]).map RV.r = zs.take (k + 1)) := Lib.hid (by rw [take_snoc HX.out, List.map_append, HY.out]; rfl)
      have HLK : Hid ((ys ++ [(⟨x, B0, k0, d0, B1, k1, d1⟩ : RV)]).length = k + 1) := Lib.hid (by rw [List.length_append, HYL.out]; rfl)
      dsimp only [RV.val] at hy
      clear g0 g1 g2 g3 g4 g5 g6 g7 g8 g9 t0 t1 o0 o1 f3 F1 hbs
      gi_wp2
      refine ⟨fun h => by simp [Fence.wide] at h, hR.mono ?_⟩
      rintro e W' (⟨rfl, hJ', hk'⟩ | ⟨rfl, hJx'⟩)
      · gi_wp2
        go_roundw
        case rel => exact ⟨k + 1, _, by omega, by simp, HTK, HLK, hJ', HB3.out.trans hk'⟩
        case measure => simp [intOf]; omega
      · gi_wp2
        refine bodyPost_ret (results_none rfl _ _ _) rfl ?_
        exact ⟨⟨_, rfl⟩, .inr ⟨_, ⟨k + 1, by omega, HTK.out⟩, hJx'⟩⟩
    · obtain rfl : k = len := by omega
      gi_wp2
      go_end0
      exact ⟨⟨_, rfl⟩, .inl ⟨ys, by have := HY.out; rwa [List.take_of_length_le (by rw [HL.out]; exact Nat.le_refl _)] at this, hJs⟩⟩
end Go.Proofs.YtoaamcpiljoojaaGreatDoor
namespace Go.Proofs.YtoaamcpiljoojaaGreatDoor
open Go.RowKit

theorem redosOk {s : HSt} (h : HOk s) : RedosOk s.l := ⟨by have := h.few; omega, fun r hr => by have := validIx_none (h.valid r hr); omega⟩
theorem records_call {S : Nat → Prop} {w : World} {B : Nat} {lv sv : Value} {s : HSt} (h : Hg S w B lv sv s) : Calls Tryz.prog 106 #[.pointer (some ⟨B, 0, none⟩)] w fun e w' =>
    ∃ A c, e = .returned (.slice A s.l.length c) ∧ Own kRedo 33 w.heap.size (From w.heap.size) w' (.slice A s.l.length c) s.l ∧ Fr All w w' := by
  have hs := h.row.sl
  have ok := redosOk h.ok
  obtain ⟨A, c, rfl⟩ := h.row.length
  obtain ⟨p0, p1, p2, p3, p4, p5, pz⟩ := blk6 h.blk
  clear h
  obtain ⟨n, hn⟩ : ∃ n, s.l.length = n := ⟨_, rfl⟩
  rw [hn] at hs p1
  have HS := Lib.hid hs
  have HO := Lib.hid ok
  have HN := Lib.hid hn
  rw [hn]
  clear hs ok hn
  go_enter Tryz.func106, Tryz.ntmps106
  go_wp2_with fail
  refine (redo_clones HS.out HO.out).mono ?_
  rintro e w' ⟨A', c', rfl, o, f⟩
  rw [HN.out] at o
  simp only [HN.out]
  have HOO := Lib.hid o
  clear o
  go_wp2_with fail
  go_ret
  exact ⟨A', c', rfl, HOO.out, f⟩
theorem all_call {S : Nat → Prop} {w : World} {B : Nat} {lv sv : Value} {s : HSt} (h : Hg S w B lv sv s) : Calls Tryz.prog 73 #[.pointer (some ⟨B, 0, none⟩)] w fun e w' =>
    ∃ Bs A c, e = .returned (.func (.func 107) #[] #[.pointer (some ⟨Bs, 0, none⟩)]) ∧ (w.heap.size ≤ Bs ∧ Bs < w'.heap.size) ∧ w'.cell? ⟨Bs, 0, none⟩ = some (.slice A s.l.length c) ∧ Sl kRedo (fun b => w.heap.size ≤ b ∧ b < w'.heap.size) w' (.slice A s.l.length c) s.l ∧ Fr All w w' := by
  obtain ⟨n, hn⟩ : ∃ n, s.l.length = n := ⟨_, rfl⟩
  have H := Lib.hid (records_call h)
  rw [hn] at H ⊢
  clear hn h
  go_enter Tryz.func73, Tryz.ntmps73
  go_wp2_with fail
  refine H.out.mono ?_
  rintro e w1 ⟨A, c, rfl, o, f⟩
  have F1 := f.alloc (.cells #[.slice A n c] 27)
  have HS : Sl kRedo (fun b => w.heap.size ≤ b ∧ b < (w1.alloc (.cells #[.slice A n c] 27)).heap.size) (w1.alloc (.cells #[.slice A n c] 27)) (.slice A n c) s.l := by
    have h1 := o.sl.all ((Fr.refl All w1).alloc (.cells #[.slice A n c] 27))
    exact h1.mono fun b hb hl => ⟨hb.elim (fun h => h) (fun h => (own_lt o b h.symm).1), hl⟩
  have HC := Lib.hid (heap_alloc_new w1 (.cells #[.slice A n c] 27))
  have HSS := Lib.hid HS
  have HZ := Lib.hid f.size
  clear o f HS
  go_wp2_with fail
  go_ret
  exact ⟨w1.heap.size, A, c, rfl, ⟨HZ.out, by rw [World.size_alloc]; omega⟩, by first | exact cell_new_of HC.out | go_simp, HSS.out, F1⟩
theorem boxed_turn {W W' : World} {row : Option Nat} {B : Nat} {t : TypeId} {v : Value} (h : Boxed W B t v) (hg : W.grownBy W' row) (hr : ∀ r, row = some r → ∃ o : Obj, W.heap[r]? = some o ∧ o.isCells = false) : Boxed W' B t v :=
  h.kept hg fun e => by
    obtain ⟨o, ho, hc⟩ := hr B e.symm
    rw [show W.heap[B]? = _ from h] at ho
    cases ho
    cases hc
def RV.cells (x : RV) : Obj := .cells #[.int .i64 x.r.lsn, .int .i64 x.r.back, .int .i64 x.r.epoch, .int .i64 x.r.group, .int .i64 x.r.page, .int .i64 x.r.kind, .int .i64 x.r.slot, .slice x.A0 x.n0 x.c0, .slice x.A1 x.n1 x.c1, .bool x.r.last] 33 (0, 0)
end Go.Proofs.YtoaamcpiljoojaaGreatDoor
