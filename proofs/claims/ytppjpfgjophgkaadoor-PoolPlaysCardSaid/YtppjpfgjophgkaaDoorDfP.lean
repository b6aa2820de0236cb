/- maps.DeleteFunc over the pool's pages. -/
import Derived.Test.YtppjpfgjophgkaaDoorPk
import Derived.Lib.SlMapFilter
import Derived.WalkKit
import Derived.Maps.Ext
import Derived.Maps.RangeWalk
import Derived.Laws.IdiomRangeMap
import Derived.Deep.LoopGhost
namespace Go.Proofs.YtppjpfgjophgkaaDoor
open Go.RowKit Go.Maps

def lsnOf : Value → Int
  | .agg cs => match (cs[1]? : Option Value) with | some (Value.int _ n) => n | _ => 0
  | _ => 0
def dropD (L : Int) : Lit → DataW Value → Bool := fun _ d => match d with | .held v => decide (lsnOf v ≤ L) | _ => false

theorem drop1_call {w : World} {C : Nat} {L : Int} (hC : w.cell? ⟨C, 0, none⟩ = some (.int .i64 L)) (k : Int) (p : Page) (A : Option Addr) (n c : Nat) :
    Calls Tryd.prog 41 #[.int .i64 k, .agg #[.int .i64 p.id, .int .i64 p.lsn, .int .i64 p.level, .int .i64 p.next, .slice A n c], .pointer (some ⟨C, 0, none⟩)] w fun e w' => e = .returned (.bool (decide (p.lsn ≤ L))) ∧ Fr All w w' := by
  have hlt := World.block_lt_of_cell? w ⟨C, 0, none⟩ hC
  go_enter Tryd.func41, Tryd.ntmps41
  go_wp2_with fail
  go_ret
  exact ⟨rfl, (Fr.refl _ _).alloc _⟩

/-- What of the map an entry that has come is. -/
theorem came_page {S : Nat → Prop} {w : World} {es0 : List (Lit × DataW Value)} {L : Int} {left : Lit → Bool} {m : Int → Option Page} (hap : es0.Pairwise (fun p q => p.1 ≠ q.1)) (h3 : ∀ k, In64 k → GEnt elPage S w (.map es0) k (m k))
    {k : Int} (hk : In64 k) (hl : left (kl k) = true) {val : Value} (hat : ∀ zd, (Fk (dropD L) es0 left).atKey (kl k) zd = .held val) :
    ∃ p, m k = some p ∧ ∃ A c, val = .agg #[.int .i64 p.id, .int .i64 p.lsn, .int .i64 p.level, .int .i64 p.next, .slice A p.ents.length c] := by
  have hc := at_cameK hap (kl := kl k) trivial hl hat
  have h4 := h3 k hk
  cases hm : m k with
  | none =>
    exfalso
    rw [hm] at h4
    have h5 : Maps.has (.map es0) (kl k) = false := h4
    have h6 : ∀ z, (Fk (dropD L) es0 left).atKey (kl k) z = z := fun z => by
      refine atKey_of_not_has ?_ z
      show (es0.filter _).any _ = false
      rw [List.any_eq_false]
      intro p hp
      have := List.any_eq_false.1 (show es0.any (fun p => p.1.sameKey (kl k)) = false from h5) p (List.mem_filter.1 hp).1
      simpa using this
    have h7 := (h6 .nil).symm.trans (hat .nil)
    cases h7
  | some p =>
    rw [hm] at h4
    obtain ⟨h5, v, h6, A, c, rfl, _⟩ := h4
    refine ⟨p, rfl, A, c, ?_⟩
    have h7 : (es0.find? (fun p => p.1.sameKey (kl k))).isSome = true := by
      rw [List.find?_isSome]
      obtain ⟨q, hq, hq2⟩ := List.any_eq_true.1 (show es0.any (fun p => p.1.sameKey (kl k)) = true from h5)
      exact ⟨q, hq, hq2⟩
    obtain ⟨q, hf⟩ := Option.isSome_iff_exists.1 h7
    have h8 := find_atKey (es := es0) hf .nil
    rw [h6] at h8
    have h9 := hc q (List.mem_of_find?_eq_some hf) (WideAt.sameKey_eq (List.find?_some (p := fun p : Lit × DataW Value => p.1.sameKey (kl k)) hf))
    rw [← h8] at h9
    injection h9 with h10
    exact h10.symm

set_option maxRecDepth 100000 in
set_option maxHeartbeats 4000000 in
theorem dfunc_walk {S : Nat → Prop} {w : World} {b C n : Nat} {L : Int} {m : Int → Option Page} {D : DataW Value} (hown : w.ownsMap Tryd.prog 3 elH b n D) (h3 : ∀ k, In64 k → GEnt elPage S w D k (m k)) (hC : w.cell? ⟨C, 0, none⟩ = some (.int .i64 L)) (hCb : C ≠ b) :
    Calls Tryd.prog 40 #[.map (some b), .func (.func 41) #[] #[.pointer (some ⟨C, 0, none⟩)]] w fun e w' => e = .returned (.tuple #[]) ∧ w'.ownsMap Tryd.prog 3 elH b n (Lib.deleteFuncD (dropD L) D) ∧ w.grownBy w' (some b) := by
  have K := int_keyed (P := Tryd.prog) Tryd.underlying3
  obtain ⟨es0, rfl, hap, hkeys⟩ := hown.entries K
  have HC := Lib.hid hC
  have H3 := Lib.hid h3
  have eg := enters_of Tryd.func41 (by kernel_rfl) rfl
  clear hC h3
  go_enter Tryd.func40, Tryd.ntmps40
  go_wp2_with (first
    | (at_range; refine wpList_range_own _ rfl _ 60 rfl 3 30 K Tryd.underlying60 elH b n _ rfl hown ?_; intro w0 hrg0 hg0 hs0)
    | go_in)
  go_frame
  go_loopw [8] (fun _ wr => ∃ (left : Lit → Bool) (cnt : Nat), wr.ranges Tryd.prog 3 elH b w.heap.size n (Fk (dropD L) es0 left) left cnt ∧ w.grownBy wr (some b))
    (fun _ wr => wr.rangeLeft b w.heap.size)
  case atStart => exact ⟨_, _, by rw [Fk_start hkeys]; exact hrg0, hg0.but _⟩
  case round =>
    obtain ⟨left, cnt, hrg, hgw⟩ := hrel
    go_wp2_with (first
      | (at_next; refine wpList_next_ranges _ rfl _ rfl 3 K elH id id (fun key _ _ => ⟨key, rfl⟩) (fun v _ _ => ⟨v, rfl⟩) b w.heap.size n _ _ _ rfl hrg ?_ ?_)
      | go_in)
    · intro _ hl0
      go_wp2
      go_end0
      exact ⟨rfl, by rw [← Fk_end hl0]; exact hrg.owns, hgw⟩
    · intro x c klx yd yp w1 cnt1 hkey hlx hv hat hrg1 hlt hg1 hs1 hen
      have hgw1 := hgw.andThen hg1 (fun j hj => by cases hj; exact Or.inl (Nat.le_refl _))
      obtain ⟨k, rfl, rfl, hwf⟩ := keyOf_int_inv Tryd.underlying3 hkey
      have hyd : yd = .held c := by
        have h1 : some (DataW.held c, ([] : List MemPlace)) = some (yd, yp) := hv
        exact (congrArg Prod.fst (Option.some.inj h1)).symm
      subst hyd
      obtain ⟨p, hp, A, cc, rfl⟩ := came_page hap H3.out (k := k) hwf hlx hat
      have FA := (Fr.refl All w1).alloc (.cells #[.int .i64 p.id, .int .i64 p.lsn, .int .i64 p.level, .int .i64 p.next, .slice A p.ents.length cc] 30)
      have hC1 : w1.cell? ⟨C, 0, none⟩ = some (.int .i64 L) := (Fr.of_grown hgw1).cell (p := ⟨C, 0, none⟩) (show some C ≠ some b by simpa using hCb) HC.out
      have hCA := FA.cell (p := ⟨C, 0, none⟩) trivial hC1
      have hdr := drop1_call hCA k p A p.ents.length cc
      have HDR := Lib.hid hdr
      have hrgA := hrg1.kept (World.grownBy_alloc w1 (.cells #[.int .i64 p.id, .int .i64 p.lsn, .int .i64 p.level, .int .i64 p.next, .slice A p.ents.length cc] 30) none) (by simp) (by simp)
      have hgA := hgw1.andThen (World.grownBy_alloc w1 (.cells #[.int .i64 p.id, .int .i64 p.lsn, .int .i64 p.level, .int .i64 p.next, .slice A p.ents.length cc] 30) none) (fun j hj => by cases hj)
      cases hpl : decide (p.lsn ≤ L) with
      | false =>
        rw [hpl] at hdr
        have HD2 := Lib.hid hdr
        clear hdr hCA hC1
        have hpd : dropD L (.int .i64 k) (.held (.agg #[.int .i64 p.id, .int .i64 p.lsn, .int .i64 p.level, .int .i64 p.next, .slice A p.ents.length cc])) = false := hpl
        go_wp2_with (first
          | (go_at_call 41; refine HD2.out.mono ?_; rintro e w2 ⟨rfl, f2⟩)
          | go_in)
        have hg2 : (w1.alloc (.cells #[.int .i64 p.id, .int .i64 p.lsn, .int .i64 p.level, .int .i64 p.next, .slice A p.ents.length cc] 30)).grownBy w2 none := (f2.mono fun _ _ => trivial : Fr (But none) _ w2).grown
        have hrg2 := hrgA.kept hg2 (by simp) (by simp)
        go_roundw
        case rel => exact ⟨_, cnt1, by rw [← Fk_stays hap (K.key hkey) hlx hpd hat]; exact hrg2, hgA.andThen hg2 (fun j hj => by cases hj)⟩
        case measure => rw [hrg2.left_eq, hrg.left_eq]; exact hlt
      | true =>
        rw [hpl] at hdr
        have HD2 := Lib.hid hdr
        clear hdr hCA hC1
        have hpd : dropD L (.int .i64 k) (.held (.agg #[.int .i64 p.id, .int .i64 p.lsn, .int .i64 p.level, .int .i64 p.next, .slice A p.ents.length cc])) = true := hpl
        go_wp2_with (first
          | (go_at_call 41; refine HD2.out.mono ?_; rintro e w2 ⟨rfl, f2⟩; have hg2 : (w1.alloc (.cells #[.int .i64 p.id, .int .i64 p.lsn, .int .i64 p.level, .int .i64 p.next, .slice A p.ents.length cc] 30)).grownBy w2 none := (f2.mono fun _ _ => trivial : Fr (But none) _ w2).grown; have hrg2 := hrgA.kept hg2 (by simp) (by simp))
          | (at_delete; refine wpList_delete_ranges _ rfl _ _ 60 3 rfl 30 K Tryd.underlying60 elH b w.heap.size n _ _ _ rfl hrg2 _ _ rfl hkey ?_; intro w3 cnt3 hrg3 hle hturn; go_frame)
          | go_in)
        rw [strike_twice] at hrg3
        go_roundw
        case rel => exact ⟨_, cnt3, by rw [← Fk_struck hap (K.key hkey) hlx hpd hat]; exact hrg3, (hgA.andThen hg2 (fun j hj => by cases hj)).andThen hturn.grown (fun j hj => by cases hj; exact Or.inr rfl)⟩
        case measure => rw [hrg3.left_eq, hrg.left_eq]; omega
end Go.Proofs.YtppjpfgjophgkaaDoor
