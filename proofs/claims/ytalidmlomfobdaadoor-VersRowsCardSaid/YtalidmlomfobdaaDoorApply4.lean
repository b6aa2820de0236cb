/- page.Apply, whatever the record is. -/
import Derived.Test.YtalidmlomfobdaaDoorApply3
namespace Go.Proofs.YtalidmlomfobdaaDoor
open Go.RowKit

/-- A page with a record whose Slot is not negative. -/
def papply (p : Page) (r : Redo) : Page :=
  if r.page ≠ p.id ∨ r.lsn ≤ p.lsn then p
  else if r.kind = 1 then { p with lsn := r.lsn, level := if 16 < r.slot then 16 else r.slot, next := -1, ents := [] }
  else if r.kind = 2 then
    if p.ents.length < 8 then { p with lsn := r.lsn, ents := p.ents.take (min r.slot.toNat p.ents.length) ++ (⟨r.key, r.val⟩ :: p.ents.drop (min r.slot.toNat p.ents.length)) } else { p with lsn := r.lsn }
  else if r.kind = 3 then
    if r.slot.toNat < p.ents.length then { p with lsn := r.lsn, ents := p.ents.take r.slot.toNat ++ p.ents.drop (r.slot.toNat + 1) } else { p with lsn := r.lsn }
  else if r.kind = 4 then
    match p.ents[r.slot.toNat]? with
    | some x => { p with lsn := r.lsn, ents := p.ents.set r.slot.toNat ⟨x.key, r.val⟩ }
    | none => { p with lsn := r.lsn }
  else if r.kind = 5 then { p with lsn := r.lsn, next := if 256 ≤ r.slot then -1 else r.slot }
  else if r.kind = 6 then { p with lsn := r.lsn, ents := p.ents.take (min r.slot.toNat p.ents.length) }
  else { p with lsn := r.lsn }

theorem papply_skip {p : Page} {r : Redo} (h : r.page ≠ p.id ∨ r.lsn ≤ p.lsn) : papply p r = p := if_pos h
theorem papply_goes {p : Page} {r : Redo} (h : ¬(r.page ≠ p.id ∨ r.lsn ≤ p.lsn)) : (papply p r).lsn = r.lsn ∧ (papply p r).id = p.id := by
  unfold papply
  rw [if_neg h]
  repeat' split
  all_goals exact ⟨rfl, rfl⟩

theorem EntsOk.take {l : List Ent} (h : EntsOk l) (n : Nat) : EntsOk (l.take n) := ⟨Nat.le_trans (by rw [List.length_take]; omega) h.1, fun e he => h.2 e (List.mem_of_mem_take he)⟩

theorem page_apply {p : Page} {r : Redo} {v kv vv : Value} {S T U : Nat → Prop} {w : World} (h : Sl kEnt S w v p.ents) (ok : EntsOk p.ents) (hkv : Sl kByte T w kv r.key) (hvv : Sl kByte U w vv r.val) (hkl : r.key.length ≤ 1000000) (hvl : r.val.length ≤ 1000000) (h0 : 0 ≤ r.slot) :
    Calls Tryd.prog 85 #[.agg #[.int .i64 p.id, .int .i64 p.lsn, .int .i64 p.level, .int .i64 p.next, v], .agg #[.int .i64 r.lsn, .int .i64 r.back, .int .i64 r.epoch, .int .i64 r.group, .int .i64 r.page, .int .i64 r.kind, .int .i64 r.slot, kv, vv, .bool r.last]] w (Applied w (papply p r)) := by
  obtain ⟨lsn, back, epoch, group, page, kind, slot, key, val, last⟩ := r
  have kk : ∃ A n c, kv = .slice A n c := by obtain ⟨A, n, c, he, _⟩ := hkv.open_; exact ⟨A, n, c, he⟩
  have vk : ∃ A n c, vv = .slice A n c := by obtain ⟨A, n, c, he, _⟩ := hvv.open_; exact ⟨A, n, c, he⟩
  dsimp only at hkv hvv hkl hvl h0 ⊢
  by_cases hs : page ≠ p.id ∨ lsn ≤ p.lsn
  · rw [papply_skip hs]
    exact apply_skip h ok kk vk hs
  · have hp : page = p.id := Decidable.byContradiction fun hh => hs (.inl hh)
    have hl : p.lsn < lsn := by omega
    unfold papply
    rw [if_neg hs]
    by_cases k1 : kind = 1
    · subst k1
      exact apply_format h ok kk vk hp hl
    rw [if_neg k1]
    by_cases k2 : kind = 2
    · subst k2
      rw [if_pos rfl]
      by_cases hn : p.ents.length < 8
      · rw [if_pos hn]
        exact apply_insert (T := All) h ok kk vk (hkv.mono fun _ _ _ => trivial) (hvv.mono fun _ _ _ => trivial) hkl hvl hp hl h0 hn
      · rw [if_neg hn]
        exact apply_full h ok kk vk hp hl (by omega)
    rw [if_neg k2]
    by_cases k3 : kind = 3
    · subst k3
      rw [if_pos rfl]
      by_cases hn : slot.toNat < p.ents.length
      · rw [if_pos hn]
        exact apply_remove h ok kk vk hp hl (by show slot = (slot.toNat : Int); omega) hn
      · rw [if_neg hn]
        exact apply_remove_past h ok kk vk hp hl (by show (p.ents.length : Int) ≤ slot; have : ¬slot.toNat < p.ents.length := hn; omega)
    rw [if_neg k3]
    by_cases k4 : kind = 4
    · subst k4
      rw [if_pos rfl]
      dsimp only
      cases hx : p.ents[slot.toNat]? with
      | some x => exact apply_change h ok kk vk hp hl hvv hvl (by show slot = (slot.toNat : Int); omega) hx
      | none =>
        have := List.getElem?_eq_none_iff.1 hx
        exact apply_change_past h ok kk vk hp hl (by show (p.ents.length : Int) ≤ slot; omega)
    rw [if_neg k4]
    by_cases k5 : kind = 5
    · subst k5
      rw [if_pos rfl]
      by_cases hn : 256 ≤ slot
      · dsimp only
        rw [if_pos hn]
        exact apply_link_none h ok kk vk hp hl hn
      · dsimp only
        rw [if_neg hn]
        exact apply_link h ok kk vk hp hl (by show slot < 256; omega)
    rw [if_neg k5]
    by_cases k6 : kind = 6
    · subst k6
      exact apply_cut h ok kk vk hp hl h0
    · rw [if_neg k6]
      exact apply_other h ok kk vk hp hl k1 k2 k3 k4 k5 k6
end Go.Proofs.YtalidmlomfobdaaDoor
