/- The example of the chapter on pages. -/
import Derived.Test.YtoaamcpiljoojaaDoorPNew
namespace Go.Proofs.YtoaamcpiljoojaaDoor
open Go.RowKit

/-- A byte in a box of its own. -/
theorem Sl.byte (w : World) (S : Nat → Prop) (x : UInt8) (t : TypeId) (hS : S w.heap.size) : Sl kByte S (w.alloc (.cells #[.int .u8 (x.toNat : Int)] t)) (.slice (some ⟨w.heap.size, 0, none⟩) 1 1) [x] := by
  refine ⟨_, 1, rfl, Nat.le_refl _, by decide, fun _ => ⟨w.heap.size, 0, rfl, hS, fun i y hi => ?_⟩⟩
  cases i with
  | succ i => simp at hi
  | zero =>
    obtain rfl : x = y := by simpa using hi
    refine ⟨_, rfl, fun j u hu => ?_⟩
    have h1 := World.news_of_block (cs := #[Value.int .u8 (x.toNat : Int)]) (t := t) (fr := (0, 0)) (heap_alloc_new w _) j u (by simpa using hu)
    simpa [addr_lit] using h1

theorem Applied.sl {B : Nat} {w' : World} {v : Value} {xs : List Ent} {t : TypeId} (h : Own kEnt t B (From B) w' v xs) : Sl kEnt (From B) w' v xs :=
  h.sl.mono fun b hb _ => hb.elim id fun hh => (own_lt h b hh.symm).1
/-- The chapter's example. -/
theorem first4_call (w : World) : Calls Tryd.prog 15 #[] w fun e w' => e = .returned (.bool true) ∧ Fr All w w' := by
  go_enter Tryd.func15, Tryd.ntmps15
  go_wp2_with fail
  refine (page_new 3 _).mono ?_
  rintro e w1 ⟨A1, c1, rfl, o1, f1⟩
  dsimp only at o1 ⊢
  go_wp2_with fail
  refine (apply_insert (p := ⟨3, 0, 0, -1, []⟩) (key := [7]) (val := []) (Applied.sl (o1.all ((Fr.refl All w1).alloc _))) ⟨by simp, by simp⟩ ⟨_, _, _, rfl⟩ ⟨_, _, _, rfl⟩ (Sl.byte w1 All 7 5 trivial) (Sl.nil_ _ All _) (by simp) (by simp) rfl (by show (0 : Int) < 1; omega) (by omega) (by show 0 < 8; omega)).mono ?_
  rintro e w2 ⟨A2, c2, rfl, o2, f2⟩
  have FF := (f1.alloc (.cells #[.int .u8 7] 5)).then_all f2
  dsimp only at o2 ⊢
  go_wp2_with fail
  go_ret
  exact ⟨rfl, FF.alloc _⟩
end Go.Proofs.YtoaamcpiljoojaaDoor
