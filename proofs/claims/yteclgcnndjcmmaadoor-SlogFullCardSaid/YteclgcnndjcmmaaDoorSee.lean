/- The statements' look at errors: sentinels, Alike, sentinel, Fault, SameFault, Same, Is. -/
import Derived.Test.YteclgcnndjcmmaaDoorE
import Derived.Test.YteclgcnndjcmmaaDoorRef
import Derived.Test.YteclgcnndjcmmaaDoorD
import Derived.Test.YteclgcnndjcmmaaDoorProg
import Derived.KernelRfl
import Derived.Outline
import Derived.Deep.QuietTactic
import Derived.BigQuiet
import Derived.Deep.RegionHeld3
import Derived.LaidEql
import Derived.Deep.Cut
namespace Go.Proofs.YteclgcnndjcmmaaDoor
open Go.RowKit

def kErr : Kd Addr := Kd.plain errV fun _ => rfl

theorem err_info : ∃ i, Tryd.prog.info? 151 = some i ∧ i.comparable = true := by
  have h : (Tryd.prog.info? 151).map (·.comparable) = some true := by kernel_rfl
  obtain ⟨i, hi, hc⟩ := Option.map_eq_some_iff.1 h
  exact ⟨i, hi, hc⟩
theorem str_info : ∃ j, Tryd.prog.info? 168 = some j ∧ j.size ≠ 0 := by
  have h : (Tryd.prog.info? 168).map (·.size) = some 1 := by kernel_rfl
  obtain ⟨i, hi, hc⟩ := Option.map_eq_some_iff.1 h
  exact ⟨i, hi, by omega⟩
theorem eql_same (a : Addr) (w : World) : (binOp .eql 26 (.iface 151 (.pointer (some a))) (.iface 151 (.pointer (some a)))).run Tryd.prog w = .ok (.bool true) w := by
  obtain ⟨i, hi, hc⟩ := err_info
  obtain ⟨j, hj, _⟩ := str_info
  exact run_eql_iface_ptr_same w a Tryd.underlying26 Tryd.underlying151 hi hc hj
theorem eql_other {a b : Addr} {w : World} {qs : List Addr} (h : Errs w qs) (ha : a ∈ qs) (hb : b ∈ qs) (hne : a ≠ b) : (binOp .eql 26 (.iface 151 (.pointer (some a))) (.iface 151 (.pointer (some b)))).run Tryd.prog w = .ok (.bool false) w := by
  obtain ⟨i, hi, hc⟩ := err_info
  obtain ⟨j, hj, hs⟩ := str_info
  obtain ⟨c, t, h1⟩ := h.box a ha
  obtain ⟨c', t', h2⟩ := h.box b hb
  exact run_eql_iface_ptr_other w Tryd.underlying26 Tryd.underlying151 hi hc hj hs hne h1 h2
theorem alike_same (a : Addr) (w : World) : Calls Tryd.prog 95 #[errV a, errV a] w fun e w' => e = .returned (.bool true) ∧ w' = w := by
  unfold errV
  have h := eql_same a w
  go_enter Tryd.func95, Tryd.ntmps95
  go_wp2_with fail
  go_ret
  exact ⟨by simp, rfl⟩
theorem alike_not {a b : Addr} {w : World} {qs : List Addr} (he : Errs w qs) (ha : a ∈ qs) (hb : b ∈ qs) (hne : a ≠ b) : Calls Tryd.prog 95 #[errV a, errV b] w fun e w' => e = .returned (.bool false) ∧ w' = w := by
  unfold errV
  have h := eql_other he ha hb hne
  go_enter Tryd.func95, Tryd.ntmps95
  go_wp2_with fail
  go_ret
  exact ⟨by simp, rfl⟩

theorem list17 {α : Type} : ∀ {qs : List α}, qs.length = 17 → ∃ a0 a1 a2 a3 a4 a5 a6 a7 a8 a9 a10 a11 a12 a13 a14 a15 a16, qs = [a0, a1, a2, a3, a4, a5, a6, a7, a8, a9, a10, a11, a12, a13, a14, a15, a16]
  | [a0, a1, a2, a3, a4, a5, a6, a7, a8, a9, a10, a11, a12, a13, a14, a15, a16], _ => ⟨a0, a1, a2, a3, a4, a5, a6, a7, a8, a9, a10, a11, a12, a13, a14, a15, a16, rfl⟩

theorem Errs.at' {W : World} {qs : List Addr} (h : Errs W qs) {i : Nat} {nm : String} {a : Addr} (g : Nat) (hi : errNames[i]? = some nm) (hg : Tryd.prog.globalNamed nm = some g) (ha : qs[i]? = some a) : W.cell? ⟨g, 0, none⟩ = some (errV a) := by
  obtain ⟨b, h1, h2⟩ := h.at i nm g hi hg
  obtain rfl := Option.some.inj (ha.symm.trans h1)
  exact h2

set_option maxHeartbeats 2000000 in
theorem sentinels_call {qs : List Addr} {w : World} (h : Errs w qs) : Calls Tryd.prog 94 #[] w fun e w' => ∃ A c, e = .returned (.slice A 17 c) ∧ Sl kErr All w' (.slice A 17 c) qs ∧ Fr All w w' := by
  obtain ⟨a0, a1, a2, a3, a4, a5, a6, a7, a8, a9, a10, a11, a12, a13, a14, a15, a16, rfl⟩ := list17 h.len
  have g0 := h.at' (i := 0) 8 rfl (by kernel_rfl) rfl
  have g1 := h.at' (i := 1) 9 rfl (by kernel_rfl) rfl
  have g2 := h.at' (i := 2) 2 rfl (by kernel_rfl) rfl
  have g3 := h.at' (i := 3) 6 rfl (by kernel_rfl) rfl
  have g4 := h.at' (i := 4) 0 rfl (by kernel_rfl) rfl
  have g5 := h.at' (i := 5) 7 rfl (by kernel_rfl) rfl
  have g6 := h.at' (i := 6) 10 rfl (by kernel_rfl) rfl
  have g7 := h.at' (i := 7) 3 rfl (by kernel_rfl) rfl
  have g8 := h.at' (i := 8) 4 rfl (by kernel_rfl) rfl
  have g9 := h.at' (i := 9) 5 rfl (by kernel_rfl) rfl
  have g10 := h.at' (i := 10) 1 rfl (by kernel_rfl) rfl
  have g11 := h.at' (i := 11) 11 rfl (by kernel_rfl) rfl
  have g12 := h.at' (i := 12) 12 rfl (by kernel_rfl) rfl
  have g13 := h.at' (i := 13) 13 rfl (by kernel_rfl) rfl
  have g14 := h.at' (i := 14) 14 rfl (by kernel_rfl) rfl
  have g15 := h.at' (i := 15) 15 rfl (by kernel_rfl) rfl
  have g16 := h.at' (i := 16) 16 rfl (by kernel_rfl) rfl
  unfold errV at g0 g1 g2 g3 g4 g5 g6 g7 g8 g9 g10 g11 g12 g13 g14 g15 g16
  go_enter Tryd.func94, Tryd.ntmps94
  go_wp2_with fail
  go_ret
  refine ⟨_, _, rfl, ?_, (Fr.refl _ _).alloc _⟩
  refine ⟨_, 17, rfl, Nat.le_refl _, by decide, fun _ => ⟨w.heap.size, 0, rfl, trivial, fun i x hi => ⟨[errV x], rfl, fun j u hu => ?_⟩⟩⟩
  cases j with
  | succ j => simp at hu
  | zero =>
    obtain rfl : errV x = u := by simpa using hu
    have h1 := World.news_of_block (cs := #[errV a0, errV a1, errV a2, errV a3, errV a4, errV a5, errV a6, errV a7, errV a8, errV a9, errV a10, errV a11, errV a12, errV a13, errV a14, errV a15, errV a16]) (t := 26) (fr := (0, 0)) (heap_alloc_new w _) i (errV x)
      (by
        have : ([a0, a1, a2, a3, a4, a5, a6, a7, a8, a9, a10, a11, a12, a13, a14, a15, a16].map errV)[i]? = some (errV x) := by
          rw [List.getElem?_map, hi]
          rfl
        simpa using this)
    rw [addr_lit] at h1
    rw [show kErr.sz = 1 from rfl, Nat.mul_one, Nat.add_zero]
    exact h1

set_option maxHeartbeats 1000000 in
theorem sentinel_call {qs : List Addr} {w : World} {k : Nat} {a : Addr} (h : Errs w qs) (hk : qs[k]? = some a) :
    Calls Tryd.prog 85 #[errV a] w fun e w' => e = .returned (.int .i64 (101 + k)) ∧ Fr All w w' := by
  have hk17 : k < 17 := by
    have := (List.getElem?_eq_some_iff.1 hk).1
    have := h.len
    omega
  have ham : a ∈ qs := List.mem_of_getElem? hk
  unfold errV
  have Hk := Lib.hid hk
  have Hm := Lib.hid ham
  clear hk ham
  go_enter Tryd.func85, Tryd.ntmps85
  go_wp2_with fail
  refine (sentinels_call h).mono ?_
  rintro e w1 ⟨A, c, rfl, hs, f1⟩
  have h1 := h.move f1
  go_wp2_with fail
  go_loopw [4] (fun i wr => ∃ j : Nat, j ≤ k ∧ i = .int .i64 j ∧ wr = w1) (fun i _ => 17 - (intOf i).toNat)
  case atStart => exact ⟨0, Nat.zero_le _, rfl, rfl⟩
  case round =>
    obtain ⟨j, hj, rfl, rfl⟩ := hrel
    obtain ⟨x, hx, _⟩ := get_of (l := qs) (k := j) (by rw [h.len]; omega)
    obtain ⟨b, o, rfl, c0⟩ := hs.at1 hx
    have hxm : x ∈ qs := List.mem_of_getElem? hx
    have b0 : (0 : Int) ≤ (j : Int) := by omega
    have b1 : (j : Int) < (17 : Int) := by omega
    by_cases hjk : j = k
    · subst hjk
      obtain rfl : x = a := Option.some.inj (hx.symm.trans Hk.out)
      clear hx hxm
      unfold errV at c0
      go_wp2_with fail
      refine (alike_same x _).mono ?_
      rintro e _ ⟨rfl, rfl⟩
      go_wp2_with fail
      go_ret
      exact ⟨by simp, f1⟩
    · have hne : a ≠ x := fun e => by
        subst e
        have hl := h.nodup
        have e1 := (List.getElem?_eq_some_iff.1 hx)
        have e2 := (List.getElem?_eq_some_iff.1 Hk.out)
        exact hjk ((List.getElem_inj hl).1 (e1.2.trans e2.2.symm))
      clear hx
      unfold errV at c0
      go_wp2_with fail
      refine (alike_not h1 Hm.out hxm hne).mono ?_
      rintro e _ ⟨rfl, rfl⟩
      go_wp2_with fail
      go_roundw
      case rel => exact ⟨j + 1, by omega, by go_num, trivial⟩
      case measure => simp [intOf]; omega

/-- A fault's value. -/
def fltV (c : Int) (p : Bool) (n : Int) : Value := .agg #[.int .i64 c, .bool p, .int .i64 n]

/-- What an error is as a fault. -/
inductive IsFlt (w : World) (qs : List Addr) : Value → Int → Bool → Int → Prop where
  | fine : IsFlt w qs .nilIface 0 false 0
  | bare (k : Nat) (a : Addr) (h : qs[k]? = some a) : IsFlt w qs (errV a) (101 + k) false 0
  | placed (k : Nat) (a : Addr) (b o : Nat) (n : Int) (h : qs[k]? = some a) (h0 : w.cell? ⟨b, o, none⟩ = some (.int .i64 n)) (h1 : w.cell? ⟨b, o + 1, none⟩ = some (errV a)) : IsFlt w qs (.iface 131 (.pointer (some ⟨b, o, none⟩))) (101 + k) true n
theorem IsFlt.move {w w' : World} {qs : List Addr} {e : Value} {c n : Int} {p : Bool} (h : IsFlt w qs e c p n) (hf : Fr All w w') : IsFlt w' qs e c p n := by
  cases h with
  | fine => exact .fine
  | bare k a h => exact .bare k a h
  | placed k a b o n h h0 h1 => exact .placed k a b o n h (hf.cell (p := ⟨b, o, none⟩) trivial h0) (hf.cell (p := ⟨b, o + 1, none⟩) trivial h1)

set_option maxHeartbeats 1000000 in
theorem same_fault (a b : Int) (p q : Bool) (m n : Int) (w : World) : Calls Tryd.prog 59 #[.agg #[.int .i64 a, .bool p, .int .i64 m], .agg #[.int .i64 b, .bool q, .int .i64 n]] w fun e w' =>
    e = .returned (.bool (decide (a = b ∧ p = q ∧ m = n))) ∧ Fr All w w' := by
  have F0 := ((Fr.refl All w).alloc (.cells #[.int .i64 a, .bool p, .int .i64 m] 74)).alloc (.cells #[.int .i64 b, .bool q, .int .i64 n] 74)
  by_cases h1 : a = b
  · subst h1
    by_cases h2 : p = q
    · subst h2
      by_cases h3 : m = n
      · subst h3
        go_enter Tryd.func59, Tryd.ntmps59
        go_wp2_with fail
        go_ret
        exact ⟨ret_bool (by simp), F0⟩
      · have hb : (m == n) = false := beq_false_of_ne h3
        have Hn := Lib.hid h3
        clear h3
        go_enter Tryd.func59, Tryd.ntmps59
        go_wp2_with fail
        go_ret
        exact ⟨ret_bool (by simp [Hn.out]), F0⟩
    · have hb : (p == q) = false := beq_false_of_ne h2
      have Hn := Lib.hid h2
      clear h2
      go_enter Tryd.func59, Tryd.ntmps59
      go_wp2_with fail
      go_ret
      exact ⟨ret_bool (by simp [Hn.out]), F0⟩
  · have hb : (a == b) = false := beq_false_of_ne h1
    have Hn := Lib.hid h1
    clear h1
    go_enter Tryd.func59, Tryd.ntmps59
    go_wp2_with fail
    go_ret
    exact ⟨ret_bool (by simp [Hn.out]), F0⟩

theorem bare_call (c : Int) (w : World) : Calls Tryd.prog 30 #[.int .i64 c] w fun e w' => e = .returned (.agg #[.int .i64 c, .bool false, .int .i64 0]) ∧ Fr All w w' := by
  go_enter Tryd.func30, Tryd.ntmps30
  go_wp2_with fail
  refine bodyPost_ret (v := .agg #[.int .i64 c, .bool false, .int .i64 0]) ?_ rfl ⟨rfl, (Fr.refl All w).alloc _⟩
  simp [results, Tryd.results30, go_sem]

theorem assert_no (a : Addr) (w : World) : (Instr.typeAssert (.iface 151 (.pointer (some a))) 26 131 true).run Tryd.prog w = .ok (.tuple #[.pointer none, .bool false]) w := by kernel_rfl
theorem assert_at (a : Addr) (w : World) : (Instr.typeAssert (.iface 131 (.pointer (some a))) 26 131 true).run Tryd.prog w = .ok (.tuple #[.pointer (some a), .bool true]) w := by kernel_rfl

theorem none_call (w : World) : Calls Tryd.prog 84 #[] w fun e w' => e = .returned (.agg #[.int .i64 0, .bool false, .int .i64 0]) ∧ Fr All w w' := by
  go_enter Tryd.func84, Tryd.ntmps84
  go_wp2_with fail
  refine bodyPost_ret (v := .agg #[.int .i64 0, .bool false, .int .i64 0]) ?_ rfl ⟨rfl, (Fr.refl All w).alloc _⟩
  simp [results, Tryd.results84, go_sem]

theorem fault_nil (w : World) : Calls Tryd.prog 60 #[.nilIface] w fun e w' => e = .returned (.agg #[.int .i64 0, .bool false, .int .i64 0]) ∧ Fr All w w' := by
  have B := heap_alloc_new w (.cells #[.int .i64 0, .bool false, .int .i64 0] 74)
  have F0 := (Fr.refl All w).alloc (.cells #[.int .i64 0, .bool false, .int .i64 0] 74)
  go_enter Tryd.func60, Tryd.ntmps60
  go_wp2_with fail
  refine (none_call _).mono ?_
  rintro e w1 ⟨rfl, f1⟩
  obtain ⟨p0, p1, p2, pz⟩ := blk3 ((f1.block w.heap.size (blk_lt B) trivial).trans B)
  go_wp2_with fail
  refine bodyPost_ret (v := .agg #[.int .i64 0, .bool false, .int .i64 0]) ?_ rfl ⟨rfl, (((F0.trans f1).setNew (Nat.le_refl _) _).setNew (Nat.le_refl _) _).setNew (Nat.le_refl _) _⟩
  simp [results, Tryd.results60, go_sem, p0, p1, p2]
set_option maxRecDepth 100000 in
theorem fault_bare {qs : List Addr} {w : World} {k : Nat} {a : Addr} (h : Errs w qs) (hk : qs[k]? = some a) : Calls Tryd.prog 60 #[errV a] w fun e w' => e = .returned (.agg #[.int .i64 (101 + k), .bool false, .int .i64 0]) ∧ Fr All w w' := by
  have B := heap_alloc_new w (.cells #[.int .i64 0, .bool false, .int .i64 0] 74)
  have F0 := (Fr.refl All w).alloc (.cells #[.int .i64 0, .bool false, .int .i64 0] 74)
  have h0 := h.move F0
  have ha := assert_no a
  unfold errV
  go_enter Tryd.func60, Tryd.ntmps60
  go_wp2_with fail
  refine (sentinel_call h0 hk).mono ?_
  rintro e w1 ⟨rfl, f1⟩
  have B1 := (f1.block w.heap.size (blk_lt B) trivial).trans B
  go_wp2_with fail
  refine (bare_call _ _).mono ?_
  rintro e w2 ⟨rfl, f2⟩
  obtain ⟨p0, p1, p2, pz⟩ := blk3 ((f2.block w.heap.size (Nat.lt_of_lt_of_le (blk_lt B) f1.size) trivial).trans B1)
  go_wp2_with fail
  refine bodyPost_ret (v := .agg #[.int .i64 (101 + k), .bool false, .int .i64 0]) ?_ rfl ⟨rfl, ((((F0.trans f1).trans f2).setNew (Nat.le_refl _) _).setNew (Nat.le_refl _) _).setNew (Nat.le_refl _) _⟩
  simp [results, Tryd.results60, go_sem, p0, p1, p2]

/-- What Fault makes of an error, now and later. -/
def Sees (w : World) (e : Value) (c : Int) (p : Bool) (n : Int) : Prop := ∀ W, Fr All w W → Calls Tryd.prog 60 #[e] W fun r w' => r = .returned (.agg #[.int .i64 c, .bool p, .int .i64 n]) ∧ Fr All W w'
theorem Sees.nil_ (w : World) : Sees w .nilIface 0 false 0 := fun W _ => fault_nil W
theorem Sees.bare {qs : List Addr} {w : World} {k : Nat} {a : Addr} (h : Errs w qs) (hk : qs[k]? = some a) : Sees w (errV a) (101 + k) false 0 := fun _ hf => fault_bare (h.move hf) hk
theorem Sees.move {w w' : World} {e : Value} {c n : Int} {p : Bool} (h : Sees w e c p n) (hf : Fr All w w') : Sees w' e c p n := fun W hW => h W (hf.trans hW)

set_option maxHeartbeats 1000000 in
theorem see_same {w : World} {e : Value} {c n : Int} {p : Bool} (h : Sees w e c p n) (d : Int) (q : Bool) (m : Int) : Calls Tryd.prog 29 #[e, .agg #[.int .i64 d, .bool q, .int .i64 m]] w fun r w' => r = .returned (.bool (decide (c = d ∧ p = q ∧ n = m))) ∧ Fr All w w' := by
  have B := heap_alloc_new w (.cells #[.int .i64 d, .bool q, .int .i64 m] 74)
  have F0 := (Fr.refl All w).alloc (.cells #[.int .i64 d, .bool q, .int .i64 m] 74)
  obtain ⟨p0, p1, p2, pz⟩ := blk3 B
  go_enter Tryd.func29, Tryd.ntmps29
  go_upto_region 1 with (fail)
  refine wp_name ?_
  intro W hW
  rw [← hW] at F0 p0 p1 p2 pz
  clear B hW
  go_region_held3 (fun w' => w'.cell? ⟨w.heap.size, 0, none⟩ = some (.int .i64 d) ∧ w'.cell? ⟨w.heap.size, 1, none⟩ = some (.bool q) ∧ w'.cell? ⟨w.heap.size, 2, none⟩ = some (.int .i64 m))
    (first | go_keep | (go_split_ands; refine ⟨?_, ?_, ?_⟩ <;> exact Fr.cell (by assumption) trivial (by assumption)))
    (first
      | (go_at_call 60; refine (h _ F0.drew).mono ?_; rintro r w1 ⟨rfl, f1⟩)
      | (go_at_call 59; refine (same_fault c d p q n m _).mono ?_; rintro r w2 ⟨rfl, f2⟩))
  go_wp2_with fail
  go_ret
  exact ⟨ret_bool (by simp), (F0.drew.trans f1).trans f2⟩

theorem see_is {w : World} {e : Value} {c n : Int} {p : Bool} (h : Sees w e c p n) (d : Int) : Calls Tryd.prog 11 #[e, .int .i64 d] w fun r w' => r = .returned (.bool (decide (c = d ∧ p = false ∧ n = 0))) ∧ Fr All w w' := by
  go_enter Tryd.func11, Tryd.ntmps11
  go_wp2_with fail
  refine (bare_call _ _).mono ?_
  rintro r w1 ⟨rfl, f1⟩
  go_wp2_with fail
  refine (see_same (h.move f1) d false 0).mono ?_
  rintro r w2 ⟨rfl, f2⟩
  go_wp2_with fail
  go_ret
  exact ⟨ret_bool (by simp), f1.trans f2⟩
end Go.Proofs.YteclgcnndjcmmaaDoor
