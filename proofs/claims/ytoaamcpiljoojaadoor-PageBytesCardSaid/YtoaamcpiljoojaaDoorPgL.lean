/- A page as bytes, and read, as plain Lean. -/
import Derived.Test.YtoaamcpiljoojaaDoorBackLaw
namespace Go.Proofs.YtoaamcpiljoojaaDoor
open Go.RowKit

abbrev St := Nat × Option (Nat × Nat)
def entBytes (e : Ent) : List UInt8 := bytesOf e.key ++ bytesOf e.val
def entsBytes (l : List Ent) : List UInt8 := l.flatMap entBytes
def pageNums (p : Page) : List Int := [p.id, p.lsn, p.level, p.next, (p.ents.length : Int)]
def pageBytes (p : Page) : List UInt8 := vints (pageNums p) ++ entsBytes p.ents
/-- So many entries, as long as nothing is amiss. -/
def stEnts (bs : List UInt8) : Nat → St → List Ent × St
  | 0, s => ([], s)
  | n + 1, s => match s.2 with
    | some _ => ([], s)
    | none => (⟨(stBytes 32 bs s).1, (stBytes 64 bs (stBytes 32 bs s).2).1⟩ :: (stEnts bs n (stBytes 64 bs (stBytes 32 bs s).2).2).1, (stEnts bs n (stBytes 64 bs (stBytes 32 bs s).2).2).2)
theorem stEnts_bad (bs : List UInt8) (n : Nat) {s : St} (h : s.2 ≠ none) : stEnts bs n s = ([], s) := by
  cases n with
  | zero => rfl
  | succ n =>
    unfold stEnts
    cases hs : s.2 with
    | none => exact absurd hs h
    | some x => rfl
theorem stEnts_good (bs : List UInt8) (n : Nat) {s : St} (h : s.2 = none) : stEnts bs (n + 1) s = (⟨(stBytes 32 bs s).1, (stBytes 64 bs (stBytes 32 bs s).2).1⟩ :: (stEnts bs n (stBytes 64 bs (stBytes 32 bs s).2).2).1, (stEnts bs n (stBytes 64 bs (stBytes 32 bs s).2).2).2) := by
  conv => lhs; unfold stEnts
  rw [h]
/-- A page, number by number, and its entries. -/
def stPage (bs : List UInt8) (s : St) : Page × St :=
  (⟨(stNum 0 255 bs s).1, (stNum 0 1099511627776 bs (stNum 0 255 bs s).2).1, (stNum 0 16 bs (stNum 0 1099511627776 bs (stNum 0 255 bs s).2).2).1, (stNum (-1) 255 bs (stNum 0 16 bs (stNum 0 1099511627776 bs (stNum 0 255 bs s).2).2).2).1,
    (stEnts bs (stNum 0 8 bs (stNum (-1) 255 bs (stNum 0 16 bs (stNum 0 1099511627776 bs (stNum 0 255 bs s).2).2).2).2).1.toNat (stNum 0 8 bs (stNum (-1) 255 bs (stNum 0 16 bs (stNum 0 1099511627776 bs (stNum 0 255 bs s).2).2).2).2).2).1⟩,
   (stEnts bs (stNum 0 8 bs (stNum (-1) 255 bs (stNum 0 16 bs (stNum 0 1099511627776 bs (stNum 0 255 bs s).2).2).2).2).1.toNat (stNum 0 8 bs (stNum (-1) 255 bs (stNum 0 16 bs (stNum 0 1099511627776 bs (stNum 0 255 bs s).2).2).2).2).2).2)
theorem stPage_of {bs : List UInt8} {s s1 s2 s3 s4 s5 s6 : St} {a1 a2 a3 a4 a5 : Int} {l : List Ent} (n1 : stNum 0 255 bs s = (a1, s1)) (n2 : stNum 0 1099511627776 bs s1 = (a2, s2)) (n3 : stNum 0 16 bs s2 = (a3, s3)) (n4 : stNum (-1) 255 bs s3 = (a4, s4)) (n5 : stNum 0 8 bs s4 = (a5, s5)) (n6 : stEnts bs a5.toNat s5 = (l, s6)) :
    stPage bs s = (⟨a1, a2, a3, a4, l⟩, s6) := by
  unfold stPage
  rw [n1]
  dsimp only
  rw [n2]
  dsimp only
  rw [n3]
  dsimp only
  rw [n4]
  dsimp only
  rw [n5]
  dsimp only
  rw [n6]
/-- Which error a page has: of its numbers, of what it holds. -/
def pageIx (p : Page) : Option Nat :=
  if ¬ (0 ≤ p.id ∧ p.id < 256 ∧ 0 ≤ p.lsn ∧ p.lsn ≤ 1099511627776 ∧ 0 ≤ p.level ∧ p.level ≤ 16 ∧ -1 ≤ p.next ∧ p.next < 256) then some 4
  else if 8 < p.ents.length then some 3
  else if p.ents.any (fun e => decide (32 < e.key.length) || decide (64 < e.val.length)) then some 3 else none
theorem pageIx_none {p : Page} (h : pageIx p = none) : (0 ≤ p.id ∧ p.id < 256 ∧ 0 ≤ p.lsn ∧ p.lsn ≤ 1099511627776 ∧ 0 ≤ p.level ∧ p.level ≤ 16 ∧ -1 ≤ p.next ∧ p.next < 256) ∧ p.ents.length ≤ 8 ∧ ∀ e ∈ p.ents, e.key.length ≤ 32 ∧ e.val.length ≤ 64 := by
  unfold pageIx at h
  split at h
  · cases h
  split at h
  · cases h
  split at h
  · cases h
  · rename_i h1 h2 h3
    refine ⟨Decidable.not_not.1 h1, by omega, fun e he => ?_⟩
    have h4 : ¬ (decide (32 < e.key.length) || decide (64 < e.val.length)) = true := fun h5 => h3 (List.any_eq_true.2 ⟨e, he, h5⟩)
    rw [Bool.or_eq_true, decide_eq_true_eq, decide_eq_true_eq] at h4
    omega
theorem stEnts_read : ∀ (l : List Ent) {bs rest : List UInt8} {p : Nat}, (∀ e ∈ l, e.key.length ≤ 32 ∧ e.val.length ≤ 64) → bs.drop p = entsBytes l ++ rest → stEnts bs l.length (p, none) = (l, p + (entsBytes l).length, none)
  | [], bs, rest, p, _, _ => rfl
  | e :: l, bs, rest, p, hs, hb => by
    have he := hs e List.mem_cons_self
    have hb' : bs.drop p = bytesOf e.key ++ (bytesOf e.val ++ (entsBytes l ++ rest)) := by
      rw [hb]
      simp [entsBytes, entBytes]
    obtain ⟨m1, hb1⟩ := stBytes_good (most := 32) (by omega) (by omega) hb'
    obtain ⟨m2, hb2⟩ := stBytes_good (most := 64) (by omega) (by omega) hb1
    have m3 := stEnts_read l (fun x hx => hs x (List.mem_cons_of_mem _ hx)) hb2
    rw [List.length_cons, stEnts_good _ _ rfl, m1]
    dsimp only
    rw [m2]
    dsimp only
    rw [m3]
    congr 1
    simp only [entsBytes, entBytes, List.flatMap_cons, List.length_append, Prod.mk.injEq, and_true]
    omega
/-- A right page's bytes are read as it. -/
theorem stPage_good {p : Page} (ok : pageIx p = none) (rest : List UInt8) : stPage (pageBytes p ++ rest) (0, none) = (p, (pageBytes p).length, none) := by
  obtain ⟨hv, h8, hs⟩ := pageIx_none ok
  obtain ⟨bs, hbs⟩ : ∃ bs, pageBytes p ++ rest = bs := ⟨_, rfl⟩
  rw [hbs]
  have hb : bs.drop 0 = vint (zig p.id) ++ (vint (zig p.lsn) ++ (vint (zig p.level) ++ (vint (zig p.next) ++ (vint (zig (p.ents.length : Int)) ++ (entsBytes p.ents ++ rest))))) := by
    rw [List.drop_zero, ← hbs]
    simp [pageBytes, vints, pageNums]
  obtain ⟨m1, hb⟩ := stNum_good (low := 0) (high := 255) (by omega) (by omega) (zig_small (by omega) (by omega)) hb
  obtain ⟨m2, hb⟩ := stNum_good (low := 0) (high := 1099511627776) (by omega) (by omega) (zig_small (by omega) (by omega)) hb
  obtain ⟨m3, hb⟩ := stNum_good (low := 0) (high := 16) (by omega) (by omega) (zig_small (by omega) (by omega)) hb
  obtain ⟨m4, hb⟩ := stNum_good (low := -1) (high := 255) (by omega) (by omega) (by unfold zig; split <;> omega) hb
  obtain ⟨m5, hb⟩ := stNum_good (low := 0) (high := 8) (by omega) (by omega) (zig_small (by omega) (by omega)) hb
  have m6 := stEnts_read p.ents hs hb
  rw [stPage_of m1 m2 m3 m4 m5 m6]
  refine Prod.ext rfl ?_
  simp only [pageBytes, vints, pageNums, List.flatMap_cons, List.flatMap_nil, List.length_append, List.append_nil, Prod.mk.injEq, and_true]
  omega
theorem stEnts_part : ∀ (n : Nat) {bs : List UInt8} {s s' : St} {l : List Ent}, stEnts bs n s = (l, s') → s'.2 = none → s.2 = none ∧ l.length = n ∧ Part bs s.1 s'.1 (entsBytes l) ∧ ∀ e ∈ l, e.key.length ≤ 32 ∧ e.val.length ≤ 64
  | 0, bs, s, s', l, h, h0 => by
    obtain ⟨rfl, rfl⟩ := Prod.mk.inj h
    exact ⟨h0, rfl, ⟨Nat.le_refl _, fun h => h, by simp [entsBytes]⟩, fun e he => by cases he⟩
  | n + 1, bs, s, s', l, h, h0 => by
    cases hs : s.2 with
    | some x =>
      rw [stEnts_bad _ _ (by rw [hs]; simp)] at h
      obtain ⟨_, rfl⟩ := Prod.mk.inj h
      rw [hs] at h0
      cases h0
    | none =>
      rw [stEnts_good _ _ hs] at h
      obtain ⟨rfl, rfl⟩ := Prod.mk.inj h
      obtain ⟨k, s1, hk⟩ : ∃ k s1, stBytes 32 bs s = (k, s1) := ⟨_, _, rfl⟩
      rw [hk] at h0 ⊢
      dsimp only at h0 ⊢
      obtain ⟨v, s2, hw⟩ : ∃ k q, stBytes 64 bs s1 = (k, q) := ⟨_, _, rfl⟩
      rw [hw] at h0 ⊢
      dsimp only at h0 ⊢
      obtain ⟨l, s3, hr⟩ : ∃ k q, stEnts bs n s2 = (k, q) := ⟨_, _, rfl⟩
      rw [hr] at h0 ⊢
      dsimp only at h0 ⊢
      obtain ⟨e2, c1, c2, c3⟩ := stEnts_part n hr h0
      obtain ⟨e1, y1, d1⟩ := stBytes_part hw e2
      obtain ⟨_, y0, d0⟩ := stBytes_part hk e1
      refine ⟨rfl, by rw [List.length_cons, c1], ?_, fun e he => ?_⟩
      · have := (d0.trans d1).trans c2
        simpa [entsBytes, entBytes] using this
      · rcases List.mem_cons.1 he with rfl | he
        · dsimp only
          omega
        · exact c3 e he
theorem stPage_none {bs : List UInt8} {s : St} {x : Page} {p : Nat} (h : stPage bs s = (x, p, none)) : Part bs s.1 p (pageBytes x) ∧ pageIx x = none := by
  rcases h1 : stNum 0 255 bs s with ⟨a1, s1⟩
  rcases h2 : stNum 0 1099511627776 bs s1 with ⟨a2, s2⟩
  rcases h3 : stNum 0 16 bs s2 with ⟨a3, s3⟩
  rcases h4 : stNum (-1) 255 bs s3 with ⟨a4, s4⟩
  rcases h5 : stNum 0 8 bs s4 with ⟨a5, s5⟩
  rcases h6 : stEnts bs a5.toNat s5 with ⟨l, s6⟩
  rw [stPage_of h1 h2 h3 h4 h5 h6] at h
  obtain ⟨rfl, rfl⟩ := Prod.mk.inj h
  obtain ⟨e5, c1, c2, c3⟩ := stEnts_part _ h6 rfl
  obtain ⟨e4, l5, g5, d5⟩ := stNum_part h5 e5
  obtain ⟨e3, l4, g4, d4⟩ := stNum_part h4 e4
  obtain ⟨e2, l3, g3, d3⟩ := stNum_part h3 e3
  obtain ⟨e1, l2, g2, d2⟩ := stNum_part h2 e2
  obtain ⟨e0, l1, g1, d1⟩ := stNum_part h1 e1
  have hl : (l.length : Int) = a5 := by omega
  constructor
  · have := ((((d1.trans d2).trans d3).trans d4).trans d5).trans c2
    rw [← hl] at this
    simpa [pageBytes, vints, pageNums] using this
  · unfold pageIx
    dsimp only
    rw [if_neg (by omega), if_neg (by omega), if_neg]
    intro hc
    obtain ⟨e, he, hh⟩ := List.any_eq_true.1 hc
    have := c3 e he
    rw [Bool.or_eq_true, decide_eq_true_eq, decide_eq_true_eq] at hh
    omega
/-- Cut off they are none. -/
theorem stPage_cut {r : Page} (ok : pageIx r = none) {k : Nat} (hk : k < (pageBytes r).length) : (stPage ((pageBytes r).take k) (0, none)).2.2 ≠ none := by
  intro hn
  rcases h : stPage ((pageBytes r).take k) (0, none) with ⟨x, p, er⟩
  rw [h] at hn
  dsimp only at hn
  subst hn
  obtain ⟨⟨_, h2, h3⟩, h4⟩ := stPage_none h
  dsimp only at h2 h3
  rw [List.drop_zero, Nat.sub_zero] at h3
  have hp := h2 (Nat.zero_le _)
  rw [List.length_take] at hp
  have e : pageBytes x ++ (pageBytes r).drop p = pageBytes r ++ [] := by
    rw [← h3, List.take_take, Nat.min_eq_left (by omega), List.take_append_drop, List.append_nil]
  have g1 := stPage_good h4 ((pageBytes r).drop p)
  rw [e, stPage_good ok []] at g1
  have h5 := congrArg List.length e
  rw [List.length_append, List.length_drop, List.append_nil] at h5
  have h6 := (Prod.mk.inj (Prod.mk.inj g1).2).1
  omega
theorem pageBytes_short {p : Page} (ok : pageIx p = none) : (pageBytes p).length ≤ 1000 := by
  obtain ⟨hv, h8, hs⟩ := pageIx_none ok
  have hb : ∀ b : List UInt8, b.length ≤ 64 → (bytesOf b).length ≤ 66 := fun b hb => by
    have := vint_len 2 (zig b.length) (by decide) (by simp only [zig]; split <;> omega)
    simp only [bytesOf, List.length_append]
    omega
  have he : ∀ l : List Ent, (∀ e ∈ l, e.key.length ≤ 32 ∧ e.val.length ≤ 64) → (entsBytes l).length ≤ 100 * l.length := fun l => by
    induction l with
    | nil => intro _; simp [entsBytes]
    | cons e l ih =>
      intro h
      have h1 := h e List.mem_cons_self
      have h2 := ih fun x hx => h x (List.mem_cons_of_mem _ hx)
      have k1 := vint_len 1 (zig e.key.length) (by decide) (by simp only [zig]; split <;> omega)
      have k2 := vint_len 2 (zig e.val.length) (by decide) (by simp only [zig]; split <;> omega)
      simp only [entsBytes, entBytes, bytesOf, List.flatMap_cons, List.length_append, List.length_cons] at h2 ⊢
      omega
  have h9 := he p.ents hs
  have z : ∀ n : Int, -1 ≤ n → n ≤ 1099511627776 → (vint (zig n)).length ≤ 9 := fun n a b => vint_len 9 (zig n) (by decide) (by simp only [zig]; split <;> omega)
  have z1 := z p.id (by omega) (by omega)
  have z2 := z p.lsn (by omega) (by omega)
  have z3 := z p.level (by omega) (by omega)
  have z4 := z p.next (by omega) (by omega)
  have z5 := z (p.ents.length : Int) (by omega) (by omega)
  simp only [pageBytes, vints, pageNums, List.flatMap_cons, List.flatMap_nil, List.length_append, List.append_nil]
  omega
/-- What reading bytes answers: the page, how many bytes, the error. -/
def pgOf (bs : List UInt8) : Page × Nat × Option (Nat × Nat) := match (stPage bs (0, none)).2.2 with
  | none => stPage bs (0, none)
  | some e => (⟨0, 0, 0, 0, []⟩, 0, some e)
theorem pgOf_none {bs : List UInt8} {x : Page} {p : Nat} (h : stPage bs (0, none) = (x, p, none)) : pgOf bs = (x, p, none) := by
  unfold pgOf
  rw [h]
theorem pgOf_some {bs : List UInt8} {x : Page} {p : Nat} {e : Nat × Nat} (h : stPage bs (0, none) = (x, p, some e)) : pgOf bs = (⟨0, 0, 0, 0, []⟩, 0, some e) := by
  unfold pgOf
  rw [h]
theorem pgOf_good {p : Page} (ok : pageIx p = none) : pgOf (pageBytes p) = (p, (pageBytes p).length, none) := by
  have := stPage_good ok []
  rw [List.append_nil] at this
  exact pgOf_none this
theorem pgOf_cut {p : Page} (ok : pageIx p = none) {k : Nat} (hk : k < (pageBytes p).length) : ∃ e, pgOf ((pageBytes p).take k) = (⟨0, 0, 0, 0, []⟩, 0, some e) := by
  have h := stPage_cut ok hk
  rcases hs : stPage ((pageBytes p).take k) (0, none) with ⟨x, q, er⟩
  rw [hs] at h
  cases er with
  | none => exact absurd rfl h
  | some e => exact ⟨e, pgOf_some hs⟩
theorem pgOf_ok (bs : List UInt8) : (pgOf bs).1.ents.length ≤ 8 ∧ ∀ e ∈ (pgOf bs).1.ents, e.key.length ≤ 32 ∧ e.val.length ≤ 64 := by
  rcases hs : stPage bs (0, none) with ⟨x, q, er⟩
  cases er with
  | none =>
    rw [pgOf_none hs]
    obtain ⟨_, h8, he⟩ := pageIx_none (stPage_none hs).2
    exact ⟨h8, he⟩
  | some e =>
    rw [pgOf_some hs]
    exact ⟨Nat.zero_le _, fun e he => by cases he⟩
theorem pageBytes_pos (p : Page) : 0 < (pageBytes p).length := by
  have : 0 < (vint (zig p.id)).length := by
    by_cases h : zig p.id < 128
    · rw [vint_small h]; simp
    · rw [vint_great h]; simp
  simp only [pageBytes, vints, pageNums, List.flatMap_cons, List.length_append]
  omega
end Go.Proofs.YtoaamcpiljoojaaDoor
