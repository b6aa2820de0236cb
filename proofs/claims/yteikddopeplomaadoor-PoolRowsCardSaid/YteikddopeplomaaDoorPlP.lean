/- The chapter's disk as plain lists, and why it answers as the program's. -/
import Derived.Test.YteikddopeplomaaDoorDkX
namespace Go.Proofs.YteikddopeplomaaDoor

abbrev Blk := Int × List UInt8
def Rise (l : List Blk) : Prop := l.Pairwise (fun a b => a.1 < b.1)
/-- With a block, rising. -/
def rins (x : Blk) : List Blk → List Blk
  | [] => [x]
  | y :: ys => if x.1 ≤ y.1 then x :: (y :: ys).filter (fun z => z.1 != x.1) else y :: rins x ys
/-- A block's bytes. -/
def rfind : List Blk → Int → Option (List UInt8)
  | [], _ => none
  | y :: ys, k => if y.1 = k then some y.2 else rfind ys k
/-- One round of the walk. -/
def rstep (x : Blk) (a : List Blk × Bool) (y : Blk) : List Blk × Bool :=
  let b := if a.2 = false ∧ x.1 ≤ y.1 then (a.1 ++ [x], true) else a
  (if y.1 = x.1 then b.1 else b.1 ++ [y], b.2)
def rfin (x : Blk) (a : List Blk × Bool) : List Blk := if a.2 then a.1 else a.1 ++ [x]

theorem fold_done (x : Blk) : ∀ (l : List Blk) (o : List Blk), l.foldl (rstep x) (o, true) = (o ++ l.filter (fun z => z.1 != x.1), true)
  | [], o => by simp
  | y :: ys, o => by
    rw [List.foldl_cons]
    have h : rstep x (o, true) y = (if y.1 = x.1 then o else o ++ [y], true) := by simp [rstep]
    rw [h, fold_done x ys]
    by_cases hy : y.1 = x.1
    · rw [if_pos hy, List.filter_cons_of_neg (by simp [hy])]
    · rw [if_neg hy, List.filter_cons_of_pos (by simpa using hy), List.append_assoc]
      rfl
theorem fold_rins (x : Blk) : ∀ (l : List Blk) (o : List Blk), rfin x (l.foldl (rstep x) (o, false)) = o ++ rins x l
  | [], o => by simp [rfin, rins]
  | y :: ys, o => by
    rw [List.foldl_cons]
    by_cases hy : x.1 ≤ y.1
    · have h : rstep x (o, false) y = (if y.1 = x.1 then o ++ [x] else o ++ [x] ++ [y], true) := by simp [rstep, hy]
      rw [h, fold_done, rins, if_pos hy, rfin, if_pos rfl]
      by_cases he : y.1 = x.1
      · rw [if_pos he, List.filter_cons_of_neg (by simp [he])]
        simp
      · rw [if_neg he, List.filter_cons_of_pos (by simpa using he)]
        simp
    · have h : rstep x (o, false) y = (o ++ [y], false) := by
        have : y.1 ≠ x.1 := by omega
        simp [rstep, hy, this]
      rw [h, fold_rins x ys, rins, if_neg hy, List.append_assoc]
      rfl

theorem rfind_filter {a k : Int} (hk : k ≠ a) : ∀ l : List Blk, rfind (l.filter (fun z => z.1 != a)) k = rfind l k
  | [] => rfl
  | y :: ys => by
    by_cases hy : y.1 = a
    · rw [List.filter_cons_of_neg (by simp [hy]), rfind_filter hk ys, rfind, if_neg (by omega)]
    · rw [List.filter_cons_of_pos (by simpa using hy), rfind, rfind, rfind_filter hk ys]
theorem rfind_rins (x : Blk) (k : Int) : ∀ l : List Blk, rfind (rins x l) k = if k = x.1 then some x.2 else rfind l k
  | [] => by
    by_cases hk : k = x.1
    · simp [rins, rfind, hk]
    · rw [if_neg hk, rins]
      show (if x.1 = k then some x.2 else rfind [] k) = none
      rw [if_neg (fun e => hk e.symm)]
      rfl
  | y :: ys => by
    by_cases hy : x.1 ≤ y.1
    · rw [rins, if_pos hy, rfind]
      by_cases hk : k = x.1
      · rw [if_pos hk.symm, if_pos hk]
      · rw [if_neg (fun e => hk e.symm), if_neg hk, rfind_filter hk]
    · rw [rins, if_neg hy, rfind, rfind_rins x k ys]
      by_cases hk : k = x.1
      · have h1 : ¬ y.1 = k := by omega
        rw [if_neg h1, if_pos hk, if_pos hk]
      · rw [if_neg hk, if_neg hk, rfind]
theorem rins_mem {x z : Blk} : ∀ {l : List Blk}, z ∈ rins x l → z = x ∨ z ∈ l
  | [], h => by simpa [rins] using h
  | y :: ys, h => by
    rw [rins] at h
    split at h
    · rcases List.mem_cons.1 h with h | h
      · exact .inl h
      · exact .inr (List.mem_filter.1 h).1
    · rcases List.mem_cons.1 h with h | h
      · exact .inr (by rw [h]; exact List.mem_cons_self)
      · exact (rins_mem h).imp id (List.mem_cons_of_mem _)
theorem rins_rise {x : Blk} : ∀ {l : List Blk}, Rise l → Rise (rins x l)
  | [], _ => by simp [rins, Rise]
  | y :: ys, h => by
    obtain ⟨h1, h2⟩ := List.pairwise_cons.1 h
    rw [rins]
    split
    · rename_i hy
      refine List.pairwise_cons.2 ⟨fun z hz => ?_, h.filter _⟩
      obtain ⟨hz1, hz2⟩ := List.mem_filter.1 hz
      have hne : z.1 ≠ x.1 := by simpa using hz2
      rcases List.mem_cons.1 hz1 with rfl | hz3
      · omega
      · have := h1 z hz3
        omega
    · rename_i hy
      refine List.pairwise_cons.2 ⟨fun z hz => ?_, rins_rise h2⟩
      rcases rins_mem hz with rfl | hz2
      · omega
      · exact h1 z hz2
theorem rfind_none {k : Int} : ∀ {l : List Blk}, (∀ z ∈ l, z.1 ≠ k) → rfind l k = none
  | [], _ => rfl
  | y :: ys, h => by
    rw [rfind, if_neg (h y List.mem_cons_self)]
    exact rfind_none fun z hz => h z (List.mem_cons_of_mem _ hz)
theorem filter_all {a : Int} {l : List Blk} (h : ∀ z ∈ l, z.1 ≠ a) : l.filter (fun z => z.1 != a) = l := List.filter_eq_self.2 fun z hz => by simpa using h z hz
theorem rins_len {x : Blk} : ∀ {l : List Blk}, Rise l → (rins x l).length = if (rfind l x.1).isSome then l.length else l.length + 1
  | [], _ => by simp [rins, rfind]
  | y :: ys, h => by
    obtain ⟨h1, h2⟩ := List.pairwise_cons.1 h
    rw [rins]
    split
    · rename_i hy
      by_cases he : y.1 = x.1
      · rw [rfind, if_pos he, List.filter_cons_of_neg (by simp [he]), filter_all (fun z hz => by have := h1 z hz; omega)]
        rfl
      · rw [rfind, if_neg he, rfind_none (fun z hz => by have := h1 z hz; omega), filter_all (fun z hz => by
          rcases List.mem_cons.1 hz with rfl | hz
          · exact he
          · have := h1 z hz
            omega)]
        rfl
    · rename_i hy
      have e : rfind (y :: ys) x.1 = rfind ys x.1 := by rw [rfind, if_neg (by omega)]
      rw [e, List.length_cons, rins_len h2, List.length_cons]
      split <;> rfl
theorem rfind_at {l : List Blk} (h : Rise l) {j : Nat} {p : Blk} (hj : l[j]? = some p) : rfind l p.1 = some p.2 := by
  induction l generalizing j with
  | nil => simp at hj
  | cons y ys ih =>
    obtain ⟨h1, h2⟩ := List.pairwise_cons.1 h
    cases j with
    | zero =>
      obtain rfl : y = p := by simpa using hj
      rw [rfind, if_pos rfl]
    | succ j =>
      have hj' : ys[j]? = some p := by simpa using hj
      have := h1 p (List.mem_of_getElem? hj')
      rw [rfind, if_neg (by omega)]
      exact ih h2 hj'
theorem rfind_some {l : List Blk} {k : Int} {b : List UInt8} (h : rfind l k = some b) : (k, b) ∈ l := by
  induction l with
  | nil => cases h
  | cons y ys ih =>
    rw [rfind] at h
    split at h
    · rename_i hy
      obtain rfl := Option.some.inj h
      rw [← hy]
      exact List.mem_cons_self
    · exact List.mem_cons_of_mem _ (ih h)

/-- A Sync's kept ones. -/
def rsync (kept pend : List Blk) : List Blk := pend.foldl (fun a p => rins p a) kept
theorem rfind_rsync (k : Int) : ∀ (pend kept : List Blk), Rise pend → rfind (rsync kept pend) k = (rfind pend k <|> rfind kept k)
  | [], kept, _ => rfl
  | p :: ps, kept, h => by
    obtain ⟨h1, h2⟩ := List.pairwise_cons.1 h
    show rfind (rsync (rins p kept) ps) k = _
    rw [rfind_rsync k ps _ h2, rfind_rins, rfind]
    by_cases hk : p.1 = k
    · rw [if_pos hk, if_pos hk.symm, rfind_none (fun z hz => by have := h1 z hz; omega)]
      rfl
    · rw [if_neg hk, if_neg (fun e => hk e.symm)]
/-- A Crash's kept ones, j looked at. -/
def rpick (od : Int → Bool) (kept pend : List Blk) (ps : List Int) : Nat → List Blk
  | 0 => kept
  | j + 1 => if isPick od ps j then rins (pend.getD j (0, [])) (rpick od kept pend ps j) else rpick od kept pend ps j

theorem sorted_ext : ∀ (a b : List Int), a.Pairwise (· < ·) → b.Pairwise (· < ·) → (∀ k, k ∈ a ↔ k ∈ b) → a = b
  | [], [], _, _, _ => rfl
  | [], y :: ys, _, _, h => by
    have := (h y).2 List.mem_cons_self
    cases this
  | x :: xs, [], _, _, h => by
    have := (h x).1 List.mem_cons_self
    cases this
  | x :: xs, y :: ys, ha, hb, h => by
    obtain ⟨a1, a2⟩ := List.pairwise_cons.1 ha
    obtain ⟨b1, b2⟩ := List.pairwise_cons.1 hb
    have e : x = y := by
      rcases List.mem_cons.1 ((h x).1 List.mem_cons_self) with e | e
      · exact e
      · rcases List.mem_cons.1 ((h y).2 List.mem_cons_self) with f | f
        · exact f.symm
        · have := a1 y f
          have := b1 x e
          omega
    subst e
    rw [sorted_ext xs ys a2 b2 fun k => ?_]
    constructor
    · intro hk
      rcases List.mem_cons.1 ((h k).1 (List.mem_cons_of_mem _ hk)) with f | f
      · have := a1 k hk
        omega
      · exact f
    · intro hk
      rcases List.mem_cons.1 ((h k).2 (List.mem_cons_of_mem _ hk)) with f | f
      · have := b1 k hk
        omega
      · exact f

theorem rpick_find {od : Int → Bool} {kept pend : List Blk} {ps ks : List Int} {pen m : Int → Option (List UInt8)} (hs : Rise pend) (hk : ks = pend.map (·.1)) (hp : ∀ k, pen k = rfind pend k) (hm : ∀ k, m k = rfind kept k) :
    ∀ j, j ≤ pend.length → ∀ k, pickTo od pen m ks ps j k = rfind (rpick od kept pend ps j) k
  | 0, _, k => hm k
  | j + 1, hj, k => by
    have ih := rpick_find (od := od) (ps := ps) hs hk hp hm j (by omega)
    obtain ⟨p, hpj⟩ : ∃ p, pend[j]? = some p := ⟨_, List.getElem?_eq_getElem (by omega)⟩
    rw [pickTo, rpick]
    split
    · have e1 : ks.getD j 0 = p.1 := by
        rw [hk, List.getD_eq_getElem?_getD, List.getElem?_map, hpj]
        rfl
      have e2 : pend.getD j (0, []) = p := by
        rw [List.getD_eq_getElem?_getD, hpj]
        rfl
      rw [e1, e2, hp, rfind_at hs hpj, rfind_rins]
      simp only [upd, Option.getD_some]
      rw [ih k]
    · exact ih k

/-- The chapter's disk. -/
structure RSt where
  blocks : Int
  calls : Int
  kept : List Blk
  pend : List Blk
  fuse : Int
  down : Bool
/-- Behind power. -/
def RSt.power (r : RSt) : RSt := if r.down = false ∧ 0 < r.fuse then { r with fuse := r.fuse - 1, down := decide (r.fuse - 1 = 0) } else r

/-- The two disks say the same. -/
structure Mt (s : DSt) (r : RSt) : Prop where
  blocks : s.blocks = r.blocks
  calls : s.calls = r.calls
  fuse : s.arm = r.fuse
  down : s.down = r.down
  pen : ∀ k, s.pen k = rfind r.pend k
  syn : ∀ k, s.syn k = rfind r.kept k
  np : s.np = r.pend.length
  rise : Rise r.pend
  keys : ∀ x ∈ r.pend, In64 x.1
theorem Mt.get {s : DSt} {r : RSt} (h : Mt s r) (k : Int) : s.get k = (rfind r.pend k <|> rfind r.kept k) := by
  rw [DSt.get, h.pen, h.syn]
theorem Mt.up {s : DSt} {r : RSt} (h : Mt s r) : Mt s.up r.power := by
  unfold DSt.up RSt.power
  rw [h.down, h.fuse]
  split
  · exact ⟨h.blocks, h.calls, rfl, rfl, h.pen, h.syn, h.np, h.rise, h.keys⟩
  · exact h
theorem Mt.wrote {s : DSt} {r : RSt} (h : Mt s r) {i : Int} (hi : In64 i) (xs : List UInt8) : Mt (s.wrote i xs) { r.power with pend := rins (i, xs) r.power.pend, calls := r.power.calls + 1 } := by
  have u := h.up
  unfold DSt.wrote
  refine ⟨u.blocks, congrArg (· + 1) u.calls, u.fuse, u.down, fun k => ?_, u.syn, ?_, rins_rise u.rise, fun x hx => ?_⟩
  · show upd s.up.pen i xs k = _
    rw [rfind_rins, upd, u.pen]
  · show (if (s.up.pen i).isSome then s.up.np else s.up.np + 1) = _
    rw [rins_len u.rise, u.pen, u.np]
  · rcases rins_mem hx with rfl | hx
    · exact hi
    · exact u.keys x hx
theorem Mt.synced {s : DSt} {r : RSt} (h : Mt s r) (n : Nat) : Mt (s.synced n) { r.power with kept := rsync r.power.kept r.power.pend, pend := [], calls := r.power.calls + 1 } := by
  have u := h.up
  unfold DSt.synced
  refine ⟨u.blocks, congrArg (· + 1) u.calls, u.fuse, u.down, fun k => rfl, fun k => ?_, rfl, List.Pairwise.nil, fun x hx => by cases hx⟩
  show (s.up.pen k <|> s.up.syn k) = _
  rw [rfind_rsync k _ _ u.rise, u.pen, u.syn]
theorem Mt.erased {s : DSt} {r : RSt} (h : Mt s r) : Mt s.erased { r with kept := [], pend := [], down := false, fuse := 0 } :=
  ⟨h.blocks, h.calls, rfl, rfl, fun _ => rfl, fun _ => rfl, rfl, List.Pairwise.nil, fun x hx => by cases hx⟩
theorem Mt.armed {s : DSt} {r : RSt} (h : Mt s r) (n : Int) : Mt { s with arm := max n 0 } { r with fuse := max n 0 } :=
  ⟨h.blocks, h.calls, rfl, h.down, h.pen, h.syn, h.np, h.rise, h.keys⟩
theorem Mt.crashed {s : DSt} {r : RSt} (h : Mt s r) {ks : List Int} (hk : s.Keys ks) (ps : List Int) (n : Nat) : Mt (s.crashed (pickTo odd64 s.pen s.syn ks ps ks.length) n) { r with kept := rpick odd64 r.kept r.pend ps r.pend.length, pend := [], down := false, fuse := 0 } := by
  have he : ks = r.pend.map (·.1) := by
    refine sorted_ext _ _ hk.rise ?_ fun k => ?_
    · exact List.pairwise_map.2 h.rise
    · rw [hk.mem, h.pen, List.mem_map]
      constructor
      · rintro ⟨_, h2⟩
        obtain ⟨b, hb⟩ := Option.isSome_iff_exists.1 h2
        exact ⟨_, rfind_some hb, rfl⟩
      · rintro ⟨x, hx, rfl⟩
        refine ⟨h.keys x hx, ?_⟩
        obtain ⟨j, hj⟩ := List.mem_iff_getElem?.1 hx
        rw [rfind_at h.rise hj]
        rfl
  refine ⟨h.blocks, h.calls, rfl, rfl, fun _ => rfl, fun k => ?_, rfl, List.Pairwise.nil, fun x hx => by cases hx⟩
  show pickTo odd64 s.pen s.syn ks ps ks.length k = _
  rw [show ks.length = r.pend.length by rw [he, List.length_map]]
  exact rpick_find h.rise he h.pen h.syn _ (Nat.le_refl _) k
theorem Mt.start (n : Int) : Mt (DSt.mk n (fun _ => none) 0 (fun _ => none) 0 0 0 false) ⟨n, 0, [], [], 0, false⟩ :=
  ⟨rfl, rfl, rfl, rfl, fun _ => rfl, fun _ => rfl, rfl, List.Pairwise.nil, fun x hx => by cases hx⟩
end Go.Proofs.YteikddopeplomaaDoor
