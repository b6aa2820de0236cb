/- Rows of bytes, each in a block of its own: entries whose memory is no other's; page.Clone gives such. -/
import Derived.Test.YticailbipbgihaaDoorPClone
import Derived.Test.YticailbipbgihaaDoorRefY
namespace Go.Proofs.YticailbipbgihaaDoor
open Go.RowKit

/-- The rows of bytes fs, each own, no two in one block, none in the block of vE. -/
structure Sep (base : Nat) (w : World) (vE : Value) (fs : Nat → Option (Value × List UInt8)) : Prop where
  own : ∀ i x, fs i = some x → Own kByte 5 base Nowhere w x.1 x.2
  dis : ∀ i j x y b, i ≠ j → fs i = some x → fs j = some y → x.1.ownBlock = some b → y.1.ownBlock ≠ some b
  off : ∀ i x b, fs i = some x → x.1.ownBlock = some b → vE.ownBlock ≠ some b
def fput (fs : Nat → Option (Value × List UInt8)) (m : Nat) (x : Value × List UInt8) : Nat → Option (Value × List UInt8) := fun i => if i = m then some x else fs i
theorem fput_self (fs : Nat → Option (Value × List UInt8)) (m : Nat) (x : Value × List UInt8) : fput fs m x m = some x := if_pos rfl
theorem fput_other (fs : Nat → Option (Value × List UInt8)) {m i : Nat} (x : Value × List UInt8) (h : i ≠ m) : fput fs m x i = fs i := if_neg h
section
variable {base m : Nat} {w w' : World} {vE vE' v' : Value} {fs : Nat → Option (Value × List UInt8)} {x : Value × List UInt8} {ys : List UInt8}
theorem Sep.none_ (base : Nat) (w : World) (vE : Value) : Sep base w vE fun _ => none := ⟨fun _ _ h => (by cases h), fun _ _ _ _ _ _ h => (by cases h), fun _ _ _ h => (by cases h)⟩
theorem Sep.lt (h : Sep base w vE fs) {i b : Nat} (hi : fs i = some x) (hb : x.1.ownBlock = some b) : base ≤ b ∧ b < w.heap.size := own_lt (h.own i x hi) b hb
/-- One row is put in another's place, or is new: its block is the old one's, or a new one. -/
theorem Sep.put (h : Sep base w vE fs) {old : Option Nat} (o : Own kByte 5 base Nowhere w' v' ys) (f : Fr (But old) w w') (ho : ∀ i x, i ≠ m → fs i = some x → ∀ b, old = some b → x.1.ownBlock ≠ some b)
    (hb : ∀ b, v'.ownBlock = some b → old = some b ∨ w.heap.size ≤ b) (hE : ∀ b, vE.ownBlock = some b → b < w.heap.size ∧ old ≠ some b) : Sep base w' vE (fput fs m (v', ys)) := by
  have hg : ∀ i z, fput fs m (v', ys) i = some z → (i = m ∧ z = (v', ys)) ∨ (i ≠ m ∧ fs i = some z) := by
    intro i z hz
    by_cases h1 : i = m
    · subst h1; rw [fput_self] at hz; exact .inl ⟨rfl, (Option.some.inj hz).symm⟩
    · rw [fput_other _ _ h1] at hz; exact .inr ⟨h1, hz⟩
  refine ⟨fun i z hz => ?_, fun i j z y b hij hz hy hb1 hb2 => ?_, fun i z b hz hb1 hb2 => ?_⟩
  · rcases hg i z hz with ⟨rfl, rfl⟩ | ⟨hne, hz⟩
    · exact o
    · exact (h.own i z hz).move f (fun _ hb _ => hb.elim) fun k hk e => ho i z hne hz k e.symm hk
  · rcases hg i z hz with ⟨rfl, rfl⟩ | ⟨hne, hz2⟩
    · rcases hg j y hy with ⟨rfl, _⟩ | ⟨hne2, hy2⟩
      · exact hij rfl
      · rcases hb b hb1 with h1 | h1
        · exact ho j y hne2 hy2 b h1 hb2
        · have := (h.lt hy2 hb2).2; omega
    · rcases hg j y hy with ⟨rfl, rfl⟩ | ⟨hne2, hy2⟩
      · rcases hb b hb2 with h1 | h1
        · exact ho i z hne hz2 b h1 hb1
        · have := (h.lt hz2 hb1).2; omega
      · exact h.dis i j z y b hij hz2 hy2 hb1 hb2
  · rcases hg i z hz with ⟨rfl, rfl⟩ | ⟨hne, hz⟩
    · rcases hb b hb1 with h1 | h1
      · exact (hE b hb2).2 h1
      · have := (hE b hb2).1; omega
    · exact h.off i z b hz hb1 hb2
/-- The row at m is written, or appended to. -/
theorem Sep.turn (h : Sep base w vE fs) (hm : fs m = some x) (o : Own kByte 5 base Nowhere w' v' ys) (f : Fr (But x.1.ownBlock) w w') (hb : v'.ownBlock = x.1.ownBlock ∨ v'.ownBlock = some w.heap.size) (hE : ∀ b, vE.ownBlock = some b → b < w.heap.size) : Sep base w' vE (fput fs m (v', ys)) :=
  h.put o f (fun i z hne hz b hb1 => h.dis m i x z b (Ne.symm hne) hm hz hb1) (fun b hb1 => by
    rcases hb with hb | hb
    · exact .inl (hb.symm.trans hb1)
    · rw [hb] at hb1; exact .inr (Nat.le_of_eq (Option.some.inj hb1))) fun b hb1 => ⟨hE b hb1, fun e => h.off m x b hm e hb1⟩
/-- A new row. -/
theorem Sep.fresh (h : Sep base w vE fs) (o : Own kByte 5 base Nowhere w' v' ys) (f : Fr All w w') (hn : ∀ b, v'.ownBlock = some b → w.heap.size ≤ b) (hE : ∀ b, vE.ownBlock = some b → b < w.heap.size) : Sep base w' vE (fput fs m (v', ys)) :=
  h.put (old := none) o (f.mono fun _ _ => trivial) (fun _ _ _ _ b e => by cases e) (fun b hb => .inr (hn b hb)) fun b hb => ⟨hE b hb, fun e => by cases e⟩
/-- The block of vE turns, vE' is there, or in a new one. -/
theorem Sep.keep (h : Sep base w vE fs) (f : Fr (But vE.ownBlock) w w') (hb : vE'.ownBlock = vE.ownBlock ∨ ∃ b, vE'.ownBlock = some b ∧ w.heap.size ≤ b) : Sep base w' vE' fs := by
  refine ⟨fun i z hz => (h.own i z hz).move f (fun _ hb _ => hb.elim) fun k hk e => h.off i z k hz hk e.symm, h.dis, fun i z b hz hb1 hb2 => ?_⟩
  rcases hb with hb | ⟨b', hb', hge⟩
  · exact h.off i z b hz hb1 (hb.symm.trans hb2)
  · rw [hb'] at hb2
    obtain rfl := Option.some.inj hb2
    have := (h.lt hz hb1).2
    omega
theorem Sep.move {T : Nat → Prop} (h : Sep base w vE fs) (f : Fr T w w') (hT : ∀ b, base ≤ b → T b) : Sep base w' vE fs :=
  ⟨fun i z hz => (h.own i z hz).move f (fun _ hb _ => hb.elim) fun k hk => hT k (h.lt hz hk).1, h.dis, h.off⟩
theorem Sep.lower {b0 : Nat} (h : Sep base w vE fs) (hb : b0 ≤ base) : Sep b0 w vE fs := ⟨fun i z hz => (h.own i z hz).lower hb, h.dis, h.off⟩
theorem Sep.all (h : Sep base w vE fs) (f : Fr All w w') : Sep base w' vE fs := h.keep (f.mono fun _ _ => trivial) (.inl rfl)
end

/-- Two values side by side, whatever they lead to. -/
def kRaw : Kd (Value × Value) where
  sz := 2
  K := fun _ _ x cs => cs = [x.1, x.2] ∧ x.1.oneCell' = true ∧ x.2.oneCell' = true
  pos := by decide
  len := fun h => by rw [h.1]; rfl
  one := fun h u hu => by
    obtain ⟨rfl, h1, h2⟩ := h
    rcases List.mem_cons.1 hu with rfl | hu
    · exact h1
    · rw [List.mem_singleton.1 hu]; exact h2
  move := fun h _ => h
  mono := fun _ h => h
theorem info_ent2 : (Tryd.prog.info? 39).map (fun i => (i.zero, i.size, i.bytes)) = some (some (.agg #[.slice none 0 0, .slice none 0 0]), kRaw.sz, 48) := by kernel_rfl
def twoV (p : Value × Value) : List Value := [p.1, p.2]
theorem raw_get {S : Nat → Prop} {w : World} : ∀ {rs : List (Value × Value)} {cs : List Value}, Reps kRaw S w rs cs → cs = rs.flatMap twoV ∧ ∀ p ∈ rs, p.1.oneCell' = true ∧ p.2.oneCell' = true
  | [], _, h => ⟨h, fun p hp => by cases hp⟩
  | r :: rs, _, ⟨c1, c2, he, ⟨hk, k1, k2⟩, hr⟩ => by
    obtain ⟨e2, h2⟩ := raw_get hr
    refine ⟨by rw [he, hk, e2, List.flatMap_cons]; rfl, fun p hp => ?_⟩
    rcases List.mem_cons.1 hp with rfl | hp
    · exact ⟨k1, k2⟩
    · exact h2 p hp
theorem raw_mk {S : Nat → Prop} {w : World} : ∀ {rs : List (Value × Value)}, (∀ p ∈ rs, p.1.oneCell' = true ∧ p.2.oneCell' = true) → Reps kRaw S w rs (rs.flatMap twoV)
  | [], _ => rfl
  | r :: rs, h => ⟨[r.1, r.2], rs.flatMap twoV, by rw [List.flatMap_cons]; rfl, ⟨rfl, h r List.mem_cons_self⟩, raw_mk fun p hp => h p (List.mem_cons_of_mem _ hp)⟩
theorem flat_at : ∀ {rs : List (Value × Value)} {i : Nat} {p : Value × Value}, rs[i]? = some p → (rs.flatMap twoV)[i * 2]? = some p.1 ∧ (rs.flatMap twoV)[i * 2 + 1]? = some p.2
  | [], _, _, h => by simp at h
  | r :: rs, 0, p, h => by
    obtain rfl : r = p := by simpa using h
    exact ⟨rfl, rfl⟩
  | r :: rs, i + 1, p, h => by
    have ih := flat_at (rs := rs) (i := i) (p := p) (by simpa using h)
    rw [List.flatMap_cons, show (i + 1) * 2 = i * 2 + 1 + 1 by omega]
    exact ih
theorem flat_set : ∀ {rs : List (Value × Value)} {i : Nat} {p : Value × Value} (u : Value), rs[i]? = some p → (rs.flatMap twoV).set (i * 2) u = (rs.set i (u, p.2)).flatMap twoV
  | [], _, _, _, h => by simp at h
  | r :: rs, 0, p, u, h => by
    obtain rfl : r = p := by simpa using h
    rfl
  | r :: rs, i + 1, p, u, h => by
    have ih := flat_set (rs := rs) (i := i) (p := p) u (by simpa using h)
    rw [List.set_cons_succ, List.flatMap_cons, List.flatMap_cons, ← ih, show (i + 1) * 2 = i * 2 + 1 + 1 by omega]
    rfl
theorem own_raw_at {base i : Nat} {w : World} {vE : Value} {rs : List (Value × Value)} {p : Value × Value} (h : Own kRaw 39 base Nowhere w vE rs) (hi : rs[i]? = some p) :
    ∃ g c, vE = .slice (some ⟨g, 0, none⟩) rs.length c ∧ base ≤ g ∧ g < w.heap.size ∧ w.cell? ⟨g, i * 2, none⟩ = some p.1 ∧ w.cell? ⟨g, i * 2 + 1, none⟩ = some p.2 ∧ (∀ j, w.frozen? ⟨g, j, none⟩ = false) ∧
      ∀ u, u.oneCell' = true → Own kRaw 39 base Nowhere (w.setCell ⟨g, i * 2, none⟩ u) vE (rs.set i (u, p.2)) := by
  have hlen := (List.getElem?_eq_some_iff.1 hi).1
  obtain ⟨cs, ho, hr⟩ := h
  obtain ⟨rfl, hone⟩ := raw_get hr
  obtain ⟨a1, a2⟩ := flat_at hi
  rcases ho.2 with ⟨_, h0⟩ | ⟨g, cap, cur, rfl, hg, hcell, hn, hm, hsz, htk⟩
  · omega
  obtain ⟨hc1, hz⟩ := blk_cells hcell
  have x1 := ho.cells (g := g) rfl _ _ a1
  have x2 := ho.cells (g := g) rfl _ _ a2
  rw [addr_lit, Nat.zero_add] at x1 x2
  refine ⟨g, cap, rfl, hg, (Array.getElem?_eq_some_iff.1 hcell).1, x1, x2, hz, fun u hu => ?_⟩
  have hst := (ho.stored (i * 2) u).1
  refine ⟨(rs.set i (u, p.2)).flatMap twoV, ?_, raw_mk fun q hq => ?_⟩
  · rw [List.length_set, ← flat_set u hi]
    exact hst
  · rcases List.mem_or_eq_of_mem_set hq with hq | rfl
    · exact hone q hq
    · exact ⟨hu, (hone p (List.mem_of_getElem? hi)).2⟩
/-- The first k entries have been cloned. -/
structure ClE (ents : List Ent) (k : Nat) (rs : List (Value × Value)) (fs : Nat → Option (Value × List UInt8)) : Prop where
  len : rs.length = k
  at_ : ∀ i e, i < k → ents[i]? = some e → ∃ p, rs[i]? = some p ∧ fs (2 * i) = some (p.1, e.key) ∧ fs (2 * i + 1) = some (p.2, e.val)
theorem ClE.nil_ (ents : List Ent) (fs : Nat → Option (Value × List UInt8)) : ClE ents 0 [] fs := ⟨rfl, fun i e h => absurd h (Nat.not_lt_zero _)⟩
theorem ClE.step {ents : List Ent} {k : Nat} {rs : List (Value × Value)} {fs : Nat → Option (Value × List UInt8)} (h : ClE ents k rs fs) {x : Ent} (hk : ents[k]? = some x) (v1 v2 : Value) :
    ClE ents (k + 1) (rs ++ [(v1, v2)]) (fput (fput fs (2 * k) (v1, x.key)) (2 * k + 1) (v2, x.val)) := by
  refine ⟨by rw [List.length_append, h.len]; rfl, fun i e hi he => ?_⟩
  by_cases hik : i = k
  · subst hik
    obtain rfl := Option.some.inj (hk.symm.trans he)
    refine ⟨(v1, v2), ?_, ?_, fput_self _ _ _⟩
    · rw [List.getElem?_append_right (by rw [h.len]; exact Nat.le_refl _), h.len, Nat.sub_self]
      rfl
    · rw [fput_other _ _ (by omega)]
      exact fput_self _ _ _
  · obtain ⟨p, h1, h2, h3⟩ := h.at_ i e (by omega) he
    refine ⟨p, ?_, ?_, ?_⟩
    · rw [List.getElem?_append_left (by rw [h.len]; omega)]
      exact h1
    · rw [fput_other _ _ (by omega), fput_other _ _ (by omega)]
      exact h2
    · rw [fput_other _ _ (by omega), fput_other _ _ (by omega)]
      exact h3

theorem ClE.sl {ents : List Ent} {n base : Nat} {w : World} {vE : Value} {rs : List (Value × Value)} {fs : Nat → Option (Value × List UInt8)} (h : ClE ents n rs fs) (hn : ents.length = n) (o : Own kRaw 39 base Nowhere w vE rs) (s : Sep base w vE fs) : Sl kEnt All w vE ents := by
  obtain ⟨A, c, hv, h1, h2, hx⟩ := o.sl
  have hl := h.len
  refine ⟨A, c, by rw [hv, hl, hn], by omega, h2, fun h0 => ?_⟩
  obtain ⟨b, oo, hA, _, hr⟩ := hx (by omega)
  refine ⟨b, oo, hA, trivial, fun i e hi => ?_⟩
  have hi2 := (List.getElem?_eq_some_iff.1 hi).1
  obtain ⟨p, hp, f1, f2⟩ := h.at_ i e (by omega) hi
  obtain ⟨cs, ⟨hcs, _⟩, hcell⟩ := hr i p hp
  exact ⟨cs, by rw [hcs]; exact kEnt_mk ((s.own _ _ f1).sl.mono fun _ _ _ => trivial) ((s.own _ _ f2).sl.mono fun _ _ _ => trivial), hcell⟩
set_option maxRecDepth 100000 in
set_option maxHeartbeats 2000000 in
theorem page_clone_own {p : Page} {v : Value} {S : Nat → Prop} {w : World} (h : Sl kEnt S w v p.ents) (ok : EntsOk p.ents) :
    Calls Tryd.prog 16 #[.agg #[.int .i64 p.id, .int .i64 p.lsn, .int .i64 p.level, .int .i64 p.next, v]] w fun e w' => ∃ A c rs fs, e = .returned (.agg #[.int .i64 p.id, .int .i64 p.lsn, .int .i64 p.level, .int .i64 p.next, .slice A p.ents.length c]) ∧
      Own kRaw 39 w.heap.size Nowhere w' (.slice A p.ents.length c) rs ∧ Sep w.heap.size w' (.slice A p.ents.length c) fs ∧ ClE p.ents p.ents.length rs fs ∧ Fr All w w' := by
  obtain ⟨A, c, rfl, hc, hm, hx⟩ := id h
  go_enter Tryd.func16, Tryd.ntmps16
  go_wp2_with fail
  have hn : p.ents.length ≤ 1000000 := ok.1
  go_loopw [3, 9] (fun l i wr => ∃ (k : Nat) (rs : List (Value × Value)) (fs : Nat → Option (Value × List UInt8)), k ≤ p.ents.length ∧ i = .int .i64 k ∧ Own kRaw 39 (w.heap.size + 2) Nowhere wr l rs ∧ Hid (Sep (w.heap.size + 2) wr l fs) ∧ Hid (ClE p.ents k rs fs) ∧ Fr All w wr ∧
      wr.heap[w.heap.size]? = some (.cells #[.int .i64 p.id, .int .i64 p.lsn, .int .i64 p.level, .int .i64 p.next, .slice A p.ents.length c] 24 (0, 0)) ∧
      wr.heap[w.heap.size + 1]? = some (.cells #[.int .i64 0, .int .i64 0, .int .i64 0, .int .i64 0, .slice none 0 0] 24 (0, 0)))
    (fun _ i _ => p.ents.length - (intOf i).toNat)
  case atStart => exact ⟨0, [], fun _ => none, Nat.zero_le _, rfl, Own.nil_ _ _ _ _ _, Lib.hid (Sep.none_ _ _ _), Lib.hid (ClE.nil_ _ _), ((Fr.refl All w).alloc _).alloc _, heap_alloc2_old _ _ _, heap_alloc2_new _ _ _⟩
  case round =>
    obtain ⟨k, rs, fs, hk, rfl, HO, HS, HC, HF, B1, B2⟩ := hrel
    by_cases hlt : k < p.ents.length
    · obtain ⟨b, o, rfl, hS, hr⟩ := hx (by omega)
      obtain ⟨x, hi, hmem⟩ := get_of hlt
      obtain ⟨cs, hK, hcell⟩ := hr k x hi
      have Hi := Lib.hid hi
      obtain ⟨v0, v1, rfl, k0, k1⟩ := kEnt_open hK
      obtain ⟨A0, n0, rfl, _⟩ := id k0
      obtain ⟨A1, n1, rfl, _⟩ := id k1
      have c0 : wr.cell? ⟨b, o + k * 2, none⟩ = _ := HF.cell (p := ⟨b, o + k * 2, none⟩) trivial (hcell 0 _ rfl)
      have c1 : wr.cell? ⟨b, o + k * 2 + 1, none⟩ = _ := HF.cell (p := ⟨b, o + k * 2 + 1, none⟩) trivial (hcell 1 _ rfl)
      clear hcell
      have q0 := (ok.2 x hmem).1
      have q1 := (ok.2 x hmem).2
      have hrl := HC.out.len
      clear hx hr hK hi hmem
      have l1 := blk_lt B1
      have l2 := blk_lt B2
      go_wp2_with fail
      go_region_held3 (fun w' => w'.cell? ⟨wr.heap.size, 0, none⟩ = some (.slice A0 x.key.length n0) ∧ w'.cell? ⟨wr.heap.size, 1, none⟩ = some (.slice A1 x.val.length n1))
        (first | go_keep | (refine ⟨?_, ?_⟩ <;> go_keep; done) | (go_split_ands; refine ⟨?_, ?_⟩ <;> exact Fr.cell (by assumption) trivial (by assumption)) | (go_split_ands; refine ⟨?_, ?_⟩ <;> exact h4.cell (fun hh => by have := own_lt HO _ hh.symm; simp at this) (by assumption)))
        (first
          | (go_at_call_of 22 (Value.slice A0 x.key.length n0); refine (clone_bytes (k0.all (HF.alloc _).drew) (by omega)).mono ?_; rintro e w1 ⟨A2, n2, rfl, o1, f1⟩)
          | (go_at_call_of 22 (Value.slice A1 x.val.length n1); refine (clone_bytes (k1.all ((HF.alloc _).drew.then_all f1)) (by omega)).mono ?_; rintro e w2 ⟨A3, n3, rfl, o2, f2⟩)
          | (
              with_reducible refine step_of ?_ ?_
              · rfl
              refine wp_app rfl Tryd.underlying22 info_ent2 rfl (by decide) (HO.all (((((Fr.refl All wr).alloc _).drew.then_all f1).then_all f2).alloc _)) (Src.box (d := kRaw) (S := Nowhere) (x := (.slice A2 x.key.length n2, .slice A3 x.val.length n3)) (cs := [.slice A2 x.key.length n2, .slice A3 x.val.length n3]) ⟨rfl, rfl, rfl⟩ _ 1) rfl rfl (fun b hb _ => hb.elim) ?_ ?_ ?_
              · (simp only [List.length_cons, List.length_nil]; omega)
              · (have := f1.size; have := f2.size; simp at *; omega)
              intro u4 w4 h3 h4 h5))
      have FA := ((Fr.refl All wr).alloc (.cells #[.slice A0 x.key.length n0, .slice A1 x.val.length n1] 39)).drew
      have F2 := ((FA.then_all f1).then_all f2).alloc (.cells #[.slice A2 x.key.length n2, .slice A3 x.val.length n3] 39)
      have F3 : Fr All w w4 := (HF.trans F2).row h4.grown fun m hm => by have := own_lt HO m hm; omega
      have hbut : ∀ m, m < w.heap.size + 2 → But u3.ownBlock m := fun m hm hh => by have := own_lt HO m hh.symm; omega
      have g1 := (h4.block _ (Nat.lt_of_lt_of_le l1 F2.size) (hbut _ (by omega))).trans ((F2.block _ l1 trivial).trans B1)
      have g2 := (h4.block _ (Nat.lt_of_lt_of_le l2 F2.size) (hbut _ (by omega))).trans ((F2.block _ l2 trivial).trans B2)
      have hu3 : ∀ m, u3.ownBlock = some m → m < wr.heap.size := fun m hm => (own_lt HO m hm).2
      have z1 := FA.size
      have z2 := f1.size
      have z3 := f2.size
      have S1 := (HS.out.all FA).fresh (m := 2 * k) ((o1.lower (by omega)).any (T := Nowhere)) f1 (fun m hm => (own_lt o1 m hm).1) fun m hm => by have := hu3 m hm; omega
      have S2 := S1.fresh (m := 2 * k + 1) ((o2.lower (by omega)).any (T := Nowhere)) f2 (fun m hm => (own_lt o2 m hm).1) fun m hm => by have := hu3 m hm; omega
      have S3 := (S2.all ((Fr.refl All w2).alloc (.cells #[.slice A2 x.key.length n2, .slice A3 x.val.length n3] 39))).keep (vE' := u4) h4 (by
        rcases h5 with h5 | h5
        · exact .inl h5
        · exact .inr ⟨_, h5, Nat.le_refl _⟩)
      have HS3 := Lib.hid S3
      have HC3 := Lib.hid (HC.out.step Hi.out (.slice A2 x.key.length n2) (.slice A3 x.val.length n3))
      clear F2 B1 B2 h5 hbut S1 S2 S3 HS HC hu3 z1 z2 z3 FA
      go_wp2_with fail
      go_roundw
      case rel => exact ⟨k + 1, _, _, by omega, by go_num, h3, HS3, HC3, F3, g1, g2⟩
      case measure => simp [intOf]; omega
    · obtain ⟨b1, b1'⟩ := blk_cells B1
      obtain ⟨b2, b2'⟩ := blk_cells B2
      obtain rfl : k = p.ents.length := by omega
      have hrl := HC.out.len
      obtain ⟨A3, c3, rfl⟩ := HO.length
      rw [hrl] at HO HS ⊢
      go_wp2_with fail
      refine bodyPost_ret (v := .agg #[.int .i64 p.id, .int .i64 p.lsn, .int .i64 p.level, .int .i64 p.next, .slice A3 p.ents.length c3]) ?_ rfl ⟨_, _, rs, fs, rfl, ?_, ?_, HC.out, ?_⟩
      · simp [results, Tryd.results16, go_sem, b2]
      · refine (HO.move (T := fun m => m ≠ w.heap.size ∧ m ≠ w.heap.size + 1) ?_ (fun m hm _ => hm.elim) (fun m hm => by have := own_lt HO m hm; exact ⟨by omega, by omega⟩)).lower (by omega)
        repeat (first | (with_reducible exact Fr.refl _ _) | with_reducible refine Fr.setCell ?_ (fun m hm => by first | exact hm.1 | exact hm.2) _)
      · refine (HS.out.move (T := fun m => m ≠ w.heap.size ∧ m ≠ w.heap.size + 1) ?_ (fun m hm => ⟨by omega, by omega⟩)).lower (by omega)
        repeat (first | (with_reducible exact Fr.refl _ _) | with_reducible refine Fr.setCell ?_ (fun m hm => by first | exact hm.1 | exact hm.2) _)
      · repeat (first | (with_reducible exact HF) | with_reducible refine Fr.setNew ?_ (by simp) _)
end Go.Proofs.YticailbipbgihaaDoor
