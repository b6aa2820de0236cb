/- A log of one page's changes, one behind the other: what it says of its pages; plain Lean. The base of chapter 11, raised: take, Raise, Floor, Len, At. -/
import Derived.Test.YtalidmlomfobdaaDoorVIds
import Derived.Test.YtalidmlomfobdaaDoorVAt
import Derived.Test.YtalidmlomfobdaaDoorVBase
namespace Go.Proofs.YtalidmlomfobdaaDoor
open Go.RowKit

/-- The i-th record, from one on. -/
def recF (i : Nat) : Redo := ⟨i, (i : Int) - 1, 0, 0, 3, 4, i, [], [], false⟩
theorem recF_valid {i : Nat} (h1 : 1 ≤ i) (h8 : i ≤ 20) : validIx (recF i) = none := by
  have a1 : decide ((i : Int) < 1) = false := decide_eq_false (by omega)
  have a2 : decide ((i : Int) > 1099511627776) = false := decide_eq_false (by omega)
  have a4 : decide ((i : Int) - 1 < 0) = false := decide_eq_false (by omega)
  have a5 : decide ((i : Int) - 1 ≥ (i : Int)) = false := decide_eq_false (by omega)
  have a7 : inB (i : Int) 32769 = true := inB_iff.2 ⟨by omega, by omega⟩
  unfold validIx recF
  dsimp only
  rw [a1, a2, a4, a5, a7]
  rfl
/-- The log behind the first j. -/
structure Fw (j : Nat) (s : HSt) : Prop where
  rise : Rise s.l
  mem : ∀ r, r ∈ s.l ↔ ∃ i, 1 ≤ i ∧ i ≤ j ∧ r = recF i
  len : s.l.length = j
  group : s.group = 0
  spans : s.spans = []
  cuts : s.cuts = 0
theorem Fw.new : Fw 0 (.new 0) := ⟨List.Pairwise.nil, fun r => ⟨fun h => (by simp [HSt.new] at h), fun ⟨i, h1, h2, _⟩ => by omega⟩, rfl, rfl, rfl, rfl⟩
def rowsF (m : Nat) : List Redo := (List.range m).map fun i => recF (i + 1)
theorem rowsF_mem {m : Nat} {r : Redo} : r ∈ rowsF m ↔ ∃ i, 1 ≤ i ∧ i ≤ m ∧ r = recF i := by
  unfold rowsF
  rw [List.mem_map]
  constructor
  · rintro ⟨i, hi, rfl⟩
    rw [List.mem_range] at hi
    exact ⟨i + 1, by omega, by omega, rfl⟩
  · rintro ⟨i, h0, h1, rfl⟩
    obtain ⟨k, rfl⟩ : ∃ k, i = k + 1 := ⟨i - 1, by omega⟩
    exact ⟨k, by rw [List.mem_range]; omega, rfl⟩
theorem rowsF_rise (m : Nat) : Rise (rowsF m) := by
  unfold Rise rowsF
  rw [List.pairwise_map]
  refine List.pairwise_lt_range.imp fun {a b} h => ?_
  show ((a + 1 : Nat) : Int) < ((b + 1 : Nat) : Int)
  omega
theorem rowsF_len (m : Nat) : (rowsF m).length = m := by simp [rowsF]
section
variable {j : Nat} {s : HSt}
theorem Fw.fresh (h : Fw j s) : isL s.l (recF (j + 1)).lsn = false := by
  rw [isL_false]
  intro x hx he
  obtain ⟨i, h1, h2, rfl⟩ := (h.mem x).1 hx
  have : (i : Int) = ((j + 1 : Nat) : Int) := he
  omega
theorem Fw.add (h : Fw j s) : Fw (j + 1) (s.add (recF (j + 1))) := by
  refine ⟨lins_rise h.rise h.fresh, fun r => ?_, ?_, h.group, h.spans, h.cuts⟩
  · show r ∈ lins s.l _ ↔ _
    rw [lins_mem, h.mem]
    constructor
    · rintro (rfl | ⟨i, h1, h2, rfl⟩)
      · exact ⟨j + 1, by omega, by omega, rfl⟩
      · exact ⟨i, h1, by omega, rfl⟩
    · rintro ⟨i, h1, h2, rfl⟩
      by_cases he : i = j + 1
      · subst he; exact .inl rfl
      · exact .inr ⟨i, h1, by omega, rfl⟩
  · show (lins s.l _).length = _
    rw [lins_len, h.len]
theorem Fw.knows (h : Fw j s) (v : Int) : Fw j (s.knows v) := ⟨h.rise, h.mem, h.len, h.group, h.spans, h.cuts⟩
theorem Fw.climb (h : Fw j s) : Climb s.l 0 (j : Int) := by
  have key : ∀ d k, k + d = j → Climb s.l (k : Int) (j : Int) := by
    intro d
    induction d with
    | zero =>
      intro k hk
      obtain rfl : k = j := by omega
      refine .stop (pick_none_iff.2 fun x hx hb => ?_)
      obtain ⟨i, h1, h2, rfl⟩ := (h.mem x).1 hx
      have : (i : Int) - 1 = (k : Int) := hb
      omega
    | succ d ih =>
      intro k hk
      have h1 := ih (k + 1) (by omega)
      refine .step (x := recF (k + 1)) (pick_one ((h.mem _).2 ⟨k + 1, by omega, by omega, rfl⟩) (by show ((k + 1 : Nat) : Int) - 1 = _; omega) fun y hy hb => ?_) h1
      obtain ⟨i, _, _, rfl⟩ := (h.mem y).1 hy
      have : (i : Int) - 1 = (k : Int) := hb
      obtain rfl : i = k + 1 := by omega
      rfl
  exact key j 0 (by omega)
theorem Fw.of (h : Fw j s) {y : Int} (hy : 0 ≤ y) : ofL s.l 3 y = rowsF (min y.toNat j) := by
  refine Rise.ext _ _ (ofL_rise h.rise _ _) (rowsF_rise _) fun r => ?_
  rw [ofL_mem, rowsF_mem, h.mem]
  constructor
  · rintro ⟨⟨i, h0, h1, rfl⟩, _, h2⟩
    have h2 : (i : Int) ≤ y := h2
    exact ⟨i, h0, by omega, rfl⟩
  · rintro ⟨i, h0, h1, rfl⟩
    exact ⟨⟨i, h0, by omega, rfl⟩, rfl, by show (i : Int) ≤ y; omega⟩
theorem asc_same : ∀ {l : List Int} {c : Int}, l.Pairwise (· < ·) → (∀ k ∈ l, k = c) → l.length ≤ 1
  | [], _, _, _ => Nat.zero_le _
  | [_], _, _, _ => Nat.le_refl _
  | a :: b :: l, c, h, hc => by
    have h1 := (List.pairwise_cons.1 h).1 b List.mem_cons_self
    have h2 := hc a List.mem_cons_self
    have h3 := hc b (List.mem_cons_of_mem _ List.mem_cons_self)
    omega
theorem Fw.ids (h : Fw j s) (x : Int) : (onces (ascend (pagesL s.l x))).length ≤ 1 := by
  obtain ⟨h1, h2⟩ := onces_is (ascend_le (pagesL s.l x))
  refine asc_same h1 (c := 3) fun k hk => ?_
  obtain ⟨r, hr, _, rfl⟩ := pagesL_mem.1 (ascend_mem.1 ((h2 k).1 hk))
  obtain ⟨i, _, _, rfl⟩ := (h.mem r).1 hr
  rfl
end
theorem pageF : ∀ m, pall (page0 3) (rowsF m) = ⟨3, m, 0, -1, []⟩
  | 0 => rfl
  | m + 1 => by
    have e1 : rowsF (m + 1) = rowsF m ++ [recF (m + 1)] := by unfold rowsF; rw [List.range_succ, List.map_append]; rfl
    rw [e1, pall_snoc, pageF m]
    have hc : ¬((recF (m + 1)).page ≠ (⟨3, m, 0, -1, []⟩ : Page).id ∨ (recF (m + 1)).lsn ≤ (⟨3, m, 0, -1, []⟩ : Page).lsn) := by
      rintro (h | h)
      · exact h rfl
      · have h : ((m + 1 : Nat) : Int) ≤ (m : Int) := h
        omega
    unfold papply
    rw [if_neg hc, if_neg (show ¬ (recF (m + 1)).kind = 1 from (by decide : ¬ (4 : Int) = 1)), if_neg (show ¬ (recF (m + 1)).kind = 2 from (by decide : ¬ (4 : Int) = 2)), if_neg (show ¬ (recF (m + 1)).kind = 3 from (by decide : ¬ (4 : Int) = 3)), if_pos (show (recF (m + 1)).kind = 4 from rfl)]
    rfl
end Go.Proofs.YtalidmlomfobdaaDoor
namespace Go.Proofs.YtalidmlomfobdaaDoor
open Go.RowKit

section
variable {S : Nat → Prop} {w : World} {b B : Nat} {lv sv ids : Value} {s : HSt} {floor : Int} {l : Option Addr}
theorem look0 (h : Hg S w B lv sv s) (hc : s.cuts = 0) (k : VBlk w b (some ⟨B, 0, none⟩) 0 floor ids) : Calls Tryd.prog 66 #[.pointer (some ⟨b, 0, none⟩)] w fun e w' => e = .returned (.tuple #[]) ∧ Fr All w w' :=
  look_call h (by rw [hc]; exact k)
theorem take_call (h : Hg S w B lv sv s) (hc : s.cuts = 0) (k : VBlk w b l 0 floor ids) (hl : l = none ∨ l = some ⟨B, 0, none⟩) (hne : b ≠ B) (hS : ∀ x, S x → x ≠ b) (hlv : lv.ownBlock ≠ some b) :
    Calls Tryd.prog 65 #[.pointer (some ⟨b, 0, none⟩), .pointer (some ⟨B, 0, none⟩)] w fun e w' => e = .returned (.tuple #[]) ∧ VBlk w' b (some ⟨B, 0, none⟩) 0 floor ids ∧ Fr (fun x => x ≠ b) w w' := by
  obtain ⟨p0, p1, p2, p3, pz⟩ := blk4 k
  have H := Lib.hid h
  have K := Lib.hid k
  have HS := Lib.hid hS
  have HL := Lib.hid hlv
  have HC := Lib.hid hc
  clear h k hS hlv hc
  rcases hl with rfl | rfl
  · go_enter Tryd.func65, Tryd.ntmps65
    go_wp2_with fail
    refine (cuts_call H.out).mono ?_
    rintro e w2 ⟨rfl, hw2⟩
    obtain rfl := hw2.symm
    clear hw2
    simp only [HC.out]
    go_wp2_with fail
    have fS : Fr (fun x => x ≠ b) w ((w.setCell ⟨b, 0, none⟩ (.pointer (some ⟨B, 0, none⟩))).setCell ⟨b, 1, none⟩ (.int .i64 0)) := by
      repeat (first | (with_reducible exact Fr.refl _ _) | with_reducible refine Fr.setCell ?_ (fun m hm => by exact hm) _)
    have hk2 : VBlk ((w.setCell ⟨b, 0, none⟩ (.pointer (some ⟨B, 0, none⟩))).setCell ⟨b, 1, none⟩ (.int .i64 0)) b (some ⟨B, 0, none⟩) 0 floor ids := heap_setCell_same _ b 1 _ _ _ (heap_setCell_same _ b 0 _ _ _ K.out)
    have H2 := Lib.hid (H.out.move fS (fun e => hne e.symm) (fun j hj e => HL.out (by rw [hj, e])) (fun x hx _ => HS.out x hx))
    have HK2 := Lib.hid hk2
    have HF := Lib.hid fS
    generalize (w.setCell ⟨b, 0, none⟩ (.pointer (some ⟨B, 0, none⟩))).setCell ⟨b, 1, none⟩ (.int .i64 0) = W at *
    clear hk2 fS p0 p1 p2 p3 pz
    refine (look0 H2.out HC.out HK2.out).mono ?_
    rintro e w3 ⟨rfl, f3⟩
    have HK3 : Hid (VBlk w3 b (some ⟨B, 0, none⟩) 0 floor ids) := Lib.hid ((f3.block b (blk_lt HK2.out) trivial).trans HK2.out)
    go_wp2_with fail
    go_end0
    exact ⟨rfl, HK3.out, HF.out.trans (f3.mono fun _ _ => trivial)⟩
  · go_enter Tryd.func65, Tryd.ntmps65
    go_wp2_with fail
    refine (look0 H.out HC.out K.out).mono ?_
    rintro e w3 ⟨rfl, f3⟩
    have HK3 : Hid (VBlk w3 b (some ⟨B, 0, none⟩) 0 floor ids) := Lib.hid ((f3.block b (blk_lt K.out) trivial).trans K.out)
    go_wp2_with fail
    go_end0
    exact ⟨rfl, HK3.out, f3.mono fun _ _ => trivial⟩
theorem floor_call (h : Hg S w B lv sv s) (hc : s.cuts = 0) (k : VBlk w b (some ⟨B, 0, none⟩) 0 floor ids) : Calls Tryd.prog 38 #[.pointer (some ⟨b, 0, none⟩)] w fun e w' => e = .returned (.int .i64 floor) ∧ Fr All w w' := by
  have H := Lib.hid h
  have K := Lib.hid k
  have HC := Lib.hid hc
  clear h k hc
  go_enter Tryd.func38, Tryd.ntmps38
  go_wp2_with fail
  refine (look0 H.out HC.out K.out).mono ?_
  rintro e w6 ⟨rfl, f6⟩
  obtain ⟨p0, p1, p2, p3, pz⟩ := blk4 ((f6.block b (blk_lt K.out) trivial).trans K.out)
  go_wp2_with fail
  go_ret
  exact ⟨rfl, f6⟩
theorem blen_call {A : Option Addr} {m c : Nat} (h : Hg S w B lv sv s) (hc : s.cuts = 0) (k : VBlk w b (some ⟨B, 0, none⟩) 0 floor (.slice A m c)) : Calls Tryd.prog 40 #[.pointer (some ⟨b, 0, none⟩)] w fun e w' => e = .returned (.int .i64 (m : Int)) ∧ Fr All w w' := by
  have H := Lib.hid h
  have K := Lib.hid k
  have HC := Lib.hid hc
  clear h k hc
  go_enter Tryd.func40, Tryd.ntmps40
  go_wp2_with fail
  refine (look0 H.out HC.out K.out).mono ?_
  rintro e w6 ⟨rfl, f6⟩
  obtain ⟨p0, p1, p2, p3, pz⟩ := blk4 ((f6.block b (blk_lt K.out) trivial).trans K.out)
  go_wp2_with fail
  go_ret
  exact ⟨rfl, f6⟩
set_option maxHeartbeats 1000000 in
theorem raise_call {A : Option Addr} {m c : Nat} (h : Hg S w B lv sv s) (hc : s.cuts = 0) (k : VBlk w b l 0 floor (.slice A m c)) (hl : l = none ∨ l = some ⟨B, 0, none⟩) (hne : b ≠ B) (hS : ∀ x, S x → x ≠ b) (hlv : lv.ownBlock ≠ some b) (f : Int)
    (hm : m ≤ 1) (hp : ∀ x, (onces (ascend (pagesL s.l x))).length ≤ 1) :
    Calls Tryd.prog 37 #[.pointer (some ⟨b, 0, none⟩), .pointer (some ⟨B, 0, none⟩), .int .i64 f] w fun e w' => ∃ v A' m' c', e = .returned (.int .i64 (m' : Nat)) ∧ m' ≤ 1 ∧ Climb s.l 0 v ∧ VBlk w' b (some ⟨B, 0, none⟩) 0 (max floor (min f v)) (.slice A' m' c') ∧ Hg S w' B lv sv (s.knows v) ∧ Fr (fun x => x ≠ b ∧ x ≠ B) w w' := by
  have H := Lib.hid h
  have K := Lib.hid k
  have HC := Lib.hid hc
  have HS := Lib.hid hS
  have HL := Lib.hid hlv
  have HP := Lib.hid hp
  clear h k hc hS hlv hp
  go_enter Tryd.func37, Tryd.ntmps37
  go_wp2_with fail
  refine (take_call H.out HC.out K.out hl hne HS.out HL.out).mono ?_
  rintro e w3 ⟨rfl, k3, f3⟩
  have K3 := Lib.hid k3
  have H3 := Lib.hid (H.out.move f3 (fun e => hne e.symm) (fun j hj e => HL.out (by rw [hj, e])) (fun x hx _ => HS.out x hx))
  have F3 := Lib.hid f3
  clear k3 f3
  go_wp2_with fail
  refine (scl_call H3.out).mono ?_
  rintro e w4 ⟨v, rfl, hcl, h4, f4⟩
  have K4 : Hid (VBlk w4 b (some ⟨B, 0, none⟩) 0 floor (.slice A m c)) := Lib.hid ((f4.block b (blk_lt K3.out) hne).trans K3.out)
  have H4 := Lib.hid h4
  have F4 : Hid (Fr (fun x => x ≠ b ∧ x ≠ B) w w4) := Lib.hid ((F3.out.mono fun x hx => hx.1).trans (f4.mono fun x hx => hx.2))
  obtain ⟨p0, p1, p2, p3, pz⟩ := blk4 K4.out
  have HCl := Lib.hid hcl
  obtain ⟨t, ht⟩ : ∃ t, min f v = t := ⟨_, rfl⟩
  clear h4 f4 hcl
  by_cases hlt : t > floor
  · have hd : decide (t > floor) = true := decide_eq_true hlt
    have HT := Lib.hid ht
    have HLT := Lib.hid hlt
    clear hlt
    go_wp2_with fail
    refine (ids_call H4.out t).mono ?_
    rintro e w5 ⟨A', m', c', rfl, o5, f5⟩
    have hm' : m' ≤ 1 := by have h1 := o5.sl.len; have h2 := HP.out t; have h3 : (s.knows v).l = s.l := rfl; rw [h3] at h1; omega
    have K5 : Hid (VBlk w5 b (some ⟨B, 0, none⟩) 0 floor (.slice A m c)) := Lib.hid ((f5.block b (blk_lt K4.out) trivial).trans K4.out)
    have H5 := Lib.hid (H4.out.all f5)
    have F5 := Lib.hid (F4.out.then_all f5)
    clear o5 f5 p0 p1 p2 p3 pz
    obtain ⟨p0, p1, p2, p3, pz⟩ := blk4 K5.out
    go_wp2_with fail
    go_ret
    have fS : Fr (fun x => x ≠ b) w5 ((w5.setCell ⟨b, 2, none⟩ (.int .i64 t)).setCell ⟨b, 3, none⟩ (.slice A' m' c')) := by
      repeat (first | (with_reducible exact Fr.refl _ _) | with_reducible refine Fr.setCell ?_ (fun m hm => by exact hm) _)
    refine ⟨v, A', m', c', rfl, hm', HCl.out, ?_, H5.out.move fS (fun e => hne e.symm) (fun j hj e => HL.out (by rw [hj, e])) (fun x hx _ => HS.out x hx), F5.out.trans (fS.mono fun x hx => hx.1)⟩
    rw [HT.out, show max floor t = t by have := HLT.out; omega]
    exact heap_setCell_same _ b 3 _ _ _ (heap_setCell_same _ b 2 _ _ _ K5.out)
  · have hd : decide (t > floor) = false := decide_eq_false hlt
    have HT := Lib.hid ht
    have HLT := Lib.hid hlt
    clear hlt
    go_wp2_with fail
    go_ret
    exact ⟨v, A, m, c, rfl, hm, HCl.out, by rw [HT.out, show max floor t = floor by have := HLT.out; omega]; exact K4.out, H4.out, F4.out⟩
set_option maxRecDepth 100000 in
set_option maxHeartbeats 2000000 in
theorem bat_ahead {qs : List Addr} {w0 : World} (hq : Errs w0 qs) (f0 : Fr All w0 w) (hb : w0.heap.size ≤ b) (h : Hg S w B lv sv s) (hc : s.cuts = 0) (k : VBlk w b l 0 floor ids) (hl : l = none ∨ l = some ⟨B, 0, none⟩) (hne : b ≠ B) (hS : ∀ x, S x → x ≠ b) (hlv : lv.ownBlock ≠ some b)
    {y : Int} (y0 : 0 ≤ y) (y1 : y ≤ 1099511627776) (hlt : y < floor) :
    Calls Tryd.prog 39 #[.pointer (some ⟨b, 0, none⟩), .pointer (some ⟨B, 0, none⟩), .int .i64 3, .int .i64 y] w fun e w' => ∃ a, qs[6]? = some a ∧ e = .returned (.tuple #[.agg #[.int .i64 0, .int .i64 0, .int .i64 0, .int .i64 0, .slice none 0 0], errV a]) ∧ Fr (fun x => x ≠ b) w w' := by
  obtain ⟨a, ha, hcell0⟩ := hq.at 6 "sextet/api.ErrNone" 4 rfl (by kernel_rfl)
  have hG : 4 < w0.heap.size := World.block_lt_of_cell? w0 ⟨4, 0, none⟩ hcell0
  have hGw := f0.size
  have F0 := (Fr.refl All w).alloc (.cells #[.int .i64 0, .int .i64 0, .int .i64 0, .int .i64 0, .slice none 0 0] 66)
  have P0 := heap_alloc_new w (.cells #[.int .i64 0, .int .i64 0, .int .i64 0, .int .i64 0, .slice none 0 0] 66)
  have hbl := blk_lt k
  have k0 : VBlk (w.alloc (.cells #[.int .i64 0, .int .i64 0, .int .i64 0, .int .i64 0, .slice none 0 0] 66)) b l 0 floor ids := (F0.block b hbl trivial).trans k
  have H := Lib.hid (h.all F0)
  have K := Lib.hid k0
  have HC := Lib.hid hc
  have HS := Lib.hid hS
  have HL := Lib.hid hlv
  have HQ := Lib.hid hq
  have HF := Lib.hid f0
  have HF0 := Lib.hid F0
  have HP0 := Lib.hid P0
  clear h k k0 hc hS hlv hq f0 F0 P0
  go_enter Tryd.func39, Tryd.ntmps39
  go_wp2_with fail
  refine (take_call H.out HC.out K.out hl hne HS.out HL.out).mono ?_
  rintro e w3 ⟨rfl, k3, f3⟩
  have K3 := Lib.hid k3
  have H3 := Lib.hid (H.out.move f3 (fun e => hne e.symm) (fun j hj e => HL.out (by rw [hj, e])) (fun x hx _ => HS.out x hx))
  have F3 : Hid (Fr (fun x => x ≠ b) w w3) := Lib.hid ((HF0.out.mono fun _ _ => trivial).trans f3)
  have P3 := Lib.hid ((f3.block _ (blk_lt HP0.out) (by omega)).trans HP0.out)
  obtain ⟨p0, p1, p2, p3, pz⟩ := blk4 k3
  clear k3 f3
  have hcell := (HF.out.trans ((Fr.refl All w))).cell trivial hcell0
  have hcl := F3.out.cell (p := ⟨4, 0, none⟩) (by dsimp only; omega) hcell
  obtain ⟨q0, q1, q2, q3, q4, qz⟩ := blk5 P3.out
  clear hcell hcell0
  go_upto_region 5 with (fail)
  refine wp_region_all (S := fun w' => w'.cell? ⟨4, 0, none⟩ = some (errV a)) (by kernel_rfl) hcl (fun hHeld => ?_)
  refine wpAnyH_take (i := 0) (v := ?_) rfl (by kernel_rfl) (by kernel_rfl) (by kernel_rfl) (fun _ _ _ h => h) (Or.inl ⟨by rfl, ?_⟩) (by assumption) ?_
  rotate_left
  · (intro w hSw; (try dsimp only at hSw); go_simp; try with_reducible rfl)
  try simp only [Act.put]
  try simp only [List.setIfInBounds_toArray]
  try simp only [List.set_cons_succ]
  try simp only [List.set_cons_zero]
  refine wpAnyH_take (i := 1) (v := ?_) rfl (by kernel_rfl) (by kernel_rfl) (by kernel_rfl) (fun _ _ _ h => h) (Or.inl ⟨by rfl, ?_⟩) (by assumption) ?_
  rotate_left
  · (intro w hSw; (try dsimp only at hSw); go_simp; try with_reducible rfl)
  try simp only [Act.put]
  try simp only [List.setIfInBounds_toArray]
  try simp only [List.set_cons_succ]
  try simp only [List.set_cons_zero]
  refine wpAnyH_ready (rs := [2]) (by kernel_rfl) (by simp) (AllReadyH.cons rfl (fun K hK => ?_) AllReadyH.nil)
  go_simp
  refine hK.out _ _ ?_ (fun hHeld => ?_)
  · exact Fr.cell (S := fun x => x ≠ w.heap.size) (by
      repeat (first | (with_reducible exact Fr.refl _ _) | with_reducible refine Fr.drew ?_ | with_reducible refine Fr.setCell ?_ (fun m hm => by exact hm) _)) (by dsimp only; omega) hcl
  clear hK K
  try simp only [Act.put]
  try simp only [List.setIfInBounds_toArray]
  try simp only [List.set_cons_succ]
  try simp only [List.set_cons_zero]
  refine wpAnyH_take (i := 3) (v := ?_) rfl (by kernel_rfl) (by kernel_rfl) (by kernel_rfl) (fun _ _ _ h => h) (Or.inl ⟨by rfl, ?_⟩) (by assumption) ?_
  rotate_left
  · (intro w hSw; (try dsimp only at hSw); go_simp; try with_reducible rfl)
  try simp only [Act.put]
  try simp only [List.setIfInBounds_toArray]
  try simp only [List.set_cons_succ]
  try simp only [List.set_cons_zero]
  try simp only [List.getElem_toArray, List.getElem_cons_succ, List.getElem_cons_zero, List.set_cons_succ, List.set_cons_zero]
  refine wpAnyH_done (by kernel_rfl) ?_ _
  go_wp2_with fail
  refine bodyPost_ret (v := .tuple #[.agg #[.int .i64 0, .int .i64 0, .int .i64 0, .int .i64 0, .slice none 0 0], errV a]) ?_ rfl ⟨a, ha, rfl, ?_⟩
  · simp [results, Tryd.results39, go_sem, q0, q1, q2, q3, q4, errV]
  · repeat (first | (with_reducible exact F3.out) | with_reducible refine Fr.drew ?_ | with_reducible refine Fr.setNew ?_ (by dsimp only; omega) _)
set_option maxRecDepth 100000 in
set_option maxHeartbeats 2000000 in
theorem bat_none {qs : List Addr} {w0 : World} (hq : Errs w0 qs) (f0 : Fr All w0 w) (hb : w0.heap.size ≤ b) (h : Hg S w B lv sv s) (hc : s.cuts = 0) (k : VBlk w b l 0 floor ids) (hl : l = none ∨ l = some ⟨B, 0, none⟩) (hne : b ≠ B) (hS : ∀ x, S x → x ≠ b) (hlv : lv.ownBlock ≠ some b)
    {y : Int} (y0 : 0 ≤ y) (y1 : y ≤ 1099511627776) (hlt : floor ≤ y) (hno : ofL s.l 3 y = []) :
    Calls Tryd.prog 39 #[.pointer (some ⟨b, 0, none⟩), .pointer (some ⟨B, 0, none⟩), .int .i64 3, .int .i64 y] w fun e w' => ∃ a, qs[6]? = some a ∧ e = .returned (.tuple #[.agg #[.int .i64 0, .int .i64 0, .int .i64 0, .int .i64 0, .slice none 0 0], errV a]) ∧ Fr (fun x => x ≠ b) w w' := by
  have F0 := (Fr.refl All w).alloc (.cells #[.int .i64 0, .int .i64 0, .int .i64 0, .int .i64 0, .slice none 0 0] 66)
  have P0 := heap_alloc_new w (.cells #[.int .i64 0, .int .i64 0, .int .i64 0, .int .i64 0, .slice none 0 0] 66)
  have hbl := blk_lt k
  have k0 : VBlk (w.alloc (.cells #[.int .i64 0, .int .i64 0, .int .i64 0, .int .i64 0, .slice none 0 0] 66)) b l 0 floor ids := (F0.block b hbl trivial).trans k
  have H := Lib.hid (h.all F0)
  have K := Lib.hid k0
  have HC := Lib.hid hc
  have HS := Lib.hid hS
  have HL := Lib.hid hlv
  have HQ := Lib.hid hq
  have HF := Lib.hid f0
  have HF0 := Lib.hid F0
  have HP0 := Lib.hid P0
  clear h k k0 hc hS hlv hq f0 F0 P0
  go_enter Tryd.func39, Tryd.ntmps39
  go_wp2_with fail
  refine (take_call H.out HC.out K.out hl hne HS.out HL.out).mono ?_
  rintro e w3 ⟨rfl, k3, f3⟩
  have K3 := Lib.hid k3
  have H3 := Lib.hid (H.out.move f3 (fun e => hne e.symm) (fun j hj e => HL.out (by rw [hj, e])) (fun x hx _ => HS.out x hx))
  have F3 : Hid (Fr (fun x => x ≠ b) w w3) := Lib.hid ((HF0.out.mono fun _ _ => trivial).trans f3)
  have P3 := Lib.hid ((f3.block _ (blk_lt HP0.out) (by omega)).trans HP0.out)
  obtain ⟨p0, p1, p2, p3, pz⟩ := blk4 k3
  clear k3 f3
  have HQ3 := Lib.hid (HQ.out.move (fr_past HF.out F3.out fun x hx => by omega))
  have HNO := Lib.hid hno
  clear hno
  go_wp2_with fail
  refine (at_none (id := 3) HQ3.out H3.out (by decide) (by decide) y0 y1 HNO.out).mono ?_
  rintro e w4 ⟨a, ha, rfl, f4⟩
  have F4 := Lib.hid (F3.out.then_all f4)
  obtain ⟨q0, q1, q2, q3, q4, qz⟩ := blk5 ((f4.block _ (blk_lt P3.out) trivial).trans P3.out)
  clear f4
  go_wp2_with fail
  refine bodyPost_ret (v := .tuple #[.agg #[.int .i64 0, .int .i64 0, .int .i64 0, .int .i64 0, .slice none 0 0], errV a]) ?_ rfl ⟨a, ha, rfl, ?_⟩
  · simp [results, Tryd.results39, go_sem, q0, q1, q2, q3, q4, errV]
  · repeat (first | (with_reducible exact F4.out) | with_reducible refine Fr.drew ?_ | with_reducible refine Fr.setNew ?_ (by dsimp only; omega) _)
set_option maxRecDepth 100000 in
set_option maxHeartbeats 2000000 in
theorem bat_page {qs : List Addr} {w0 : World} (hq : Errs w0 qs) (f0 : Fr All w0 w) (_hb : w0.heap.size ≤ b) (h : Hg S w B lv sv s) (hc : s.cuts = 0) (k : VBlk w b l 0 floor ids) (hl : l = none ∨ l = some ⟨B, 0, none⟩) (hne : b ≠ B) (hS : ∀ x, S x → x ≠ b) (hlv : lv.ownBlock ≠ some b)
    {y : Int} (y0 : 0 ≤ y) (y1 : y ≤ 1099511627776) (hlt : floor ≤ y) (hno : ofL s.l 3 y ≠ []) (h20 : (ofL s.l 3 y).length ≤ 20) :
    Calls Tryd.prog 39 #[.pointer (some ⟨b, 0, none⟩), .pointer (some ⟨B, 0, none⟩), .int .i64 3, .int .i64 y] w fun e w' => ∃ q A c, q = pall (page0 3) (ofL s.l 3 y) ∧ e = .returned (.tuple #[.agg #[.int .i64 q.id, .int .i64 q.lsn, .int .i64 q.level, .int .i64 q.next, .slice A q.ents.length c], .nilIface]) ∧ VBlk w' b (some ⟨B, 0, none⟩) 0 floor ids ∧ (∃ S', Hg S' w' B lv sv s) ∧ Fr (fun x => x ≠ b) w w' := by
  have hlow : ∀ j, lv.ownBlock = some j → j < w.heap.size := fun j hj => (own_lt h.row j hj).2
  have hBw := h.lt
  replace h : Hg (fun x => S x ∧ x < w.heap.size) w B lv sv s := h.mono (fun x hx hl => ⟨hx, hl⟩) (fun x hx => h.nB x hx.1)
  replace hS : ∀ x, (S x ∧ x < w.heap.size) → x ≠ b := fun x hx => hS x hx.1
  have HLO := Lib.hid hlow
  clear hlow
  have F0 := (Fr.refl All w).alloc (.cells #[.int .i64 0, .int .i64 0, .int .i64 0, .int .i64 0, .slice none 0 0] 66)
  have P0 := heap_alloc_new w (.cells #[.int .i64 0, .int .i64 0, .int .i64 0, .int .i64 0, .slice none 0 0] 66)
  have hbl := blk_lt k
  have k0 : VBlk (w.alloc (.cells #[.int .i64 0, .int .i64 0, .int .i64 0, .int .i64 0, .slice none 0 0] 66)) b l 0 floor ids := (F0.block b hbl trivial).trans k
  have H := Lib.hid (h.all F0)
  have K := Lib.hid k0
  have HC := Lib.hid hc
  have HS := Lib.hid hS
  have HL := Lib.hid hlv
  have HQ := Lib.hid hq
  have HF := Lib.hid f0
  have HF0 := Lib.hid F0
  have HP0 := Lib.hid P0
  clear h k k0 hc hS hlv hq f0 F0 P0
  go_enter Tryd.func39, Tryd.ntmps39
  go_wp2_with fail
  refine (take_call H.out HC.out K.out hl hne HS.out HL.out).mono ?_
  rintro e w3 ⟨rfl, k3, f3⟩
  have K3 := Lib.hid k3
  have H3 := Lib.hid (H.out.move f3 (fun e => hne e.symm) (fun j hj e => HL.out (by rw [hj, e])) (fun x hx _ => HS.out x hx))
  have F3 : Hid (Fr (fun x => x ≠ b) w w3) := Lib.hid ((HF0.out.mono fun _ _ => trivial).trans f3)
  have P3 := Lib.hid ((f3.block _ (blk_lt HP0.out) (by omega)).trans HP0.out)
  obtain ⟨p0, p1, p2, p3, pz⟩ := blk4 k3
  clear k3 f3
  have HNO := Lib.hid hno
  have H20 := Lib.hid h20
  clear hno h20
  go_wp2_with fail
  refine (at_call (id := 3) H3.out (by decide) (by decide) y0 y1 HNO.out H20.out).mono ?_
  rintro e w4 ⟨q, A, c, hq4, rfl, s4, f4⟩
  have F4 := Lib.hid (F3.out.then_all f4)
  have HK4 : Hid (VBlk w4 b (some ⟨B, 0, none⟩) 0 floor ids) := Lib.hid ((f4.block b (blk_lt K3.out) trivial).trans K3.out)
  have H4 := Lib.hid (H3.out.all f4)
  obtain ⟨q0, q1, q2, q3, q4, qz⟩ := blk5 ((f4.block _ (blk_lt P3.out) trivial).trans P3.out)
  have HQ4 := Lib.hid hq4
  clear f4 s4 hq4
  go_wp2_with fail
  refine bodyPost_ret (v := .tuple #[.agg #[.int .i64 q.id, .int .i64 q.lsn, .int .i64 q.level, .int .i64 q.next, .slice A q.ents.length c], .nilIface]) ?_ rfl ⟨q, A, c, HQ4.out, rfl, ?_, ?_, ?_⟩
  · simp [results, Tryd.results39, go_sem, q0, q1, q2, q3, q4]
  · refine Eq.trans (Fr.block (S := fun x => x ≠ w.heap.size) ?_ b (blk_lt HK4.out) (by omega)) HK4.out
    repeat (first | (with_reducible exact Fr.refl _ _) | with_reducible refine Fr.drew ?_ | with_reducible refine Fr.setCell ?_ (fun m hm => by exact hm) _)
  · refine ⟨_, H4.out.move (T := fun x => x ≠ w.heap.size) ?_ (by omega) (fun j hj => by have := HLO.out j hj; omega) (fun x hx _ => by have := hx.2; omega)⟩
    repeat (first | (with_reducible exact Fr.refl _ _) | with_reducible refine Fr.drew ?_ | with_reducible refine Fr.setCell ?_ (fun m hm => by exact hm) _)
  · repeat (first | (with_reducible exact F4.out) | with_reducible refine Fr.drew ?_ | with_reducible refine Fr.setNew ?_ (by dsimp only; omega) _)
end
end Go.Proofs.YtalidmlomfobdaaDoor
