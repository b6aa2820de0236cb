/- Both disks, told the same. -/
import Derived.Test.YteikddopeplomaaDoorPlE
import Derived.Test.YteikddopeplomaaDoorArmsW
namespace Go.Proofs.YteikddopeplomaaDoor
open Go.RowKit Go.Maps

/-! ### The chapter's disk turns, the program's stays -/
def NoU8 (w : World) (R : Nat) : Prop := ∀ j b, w.cell? ⟨R, j, none⟩ ≠ some (.int .u8 b)
theorem Rk.noU8 {T : Nat → Prop} {w : World} {R : Nat} {r : RSt} (h : Rk T w R r) : NoU8 w R := by
  obtain ⟨KA, kc, PA, pc, hb, _, _⟩ := h
  obtain ⟨hc, _⟩ := blk_cells hb
  intro j b e
  rw [hc j] at e
  rcases j with _ | _ | _ | _ | _ | _ | j <;> simp at e
theorem Sl.past {S : Nat → Prop} {w : World} {v : Value} {xs : List UInt8} {R : Nat} (h : Sl kByte S w v xs) (hR : NoU8 w R) : Sl kByte (fun x => S x ∧ x ≠ R) w v xs := by
  obtain ⟨A, c, rfl, h1, h2, h3⟩ := h
  refine ⟨A, c, rfl, h1, h2, fun h0 => ?_⟩
  obtain ⟨b, o, rfl, hS, hc⟩ := h3 h0
  refine ⟨b, o, rfl, ⟨hS, fun e => ?_⟩, fun i x hi => ?_⟩
  · subst e
    obtain ⟨x, hx, _⟩ := get_of (l := xs) (k := 0) h0
    obtain ⟨cs, hk, hcell⟩ := hc 0 x hx
    have hk' : cs = [Value.int .u8 (x.toNat : Int)] := hk
    subst hk'
    exact hR _ _ (hcell 0 _ rfl)
  · obtain ⟨cs, hk, hcell⟩ := hc i x hi
    exact ⟨cs, hk, hcell⟩
theorem MapIs.past {P : Program} {K : TypeId} {S : Nat → Prop} {w : World} {b n R : Nat} {m : Int → Option (List UInt8)} (h : MapIs P K S w b m n) (hR : NoU8 w R) : MapIs P K (fun x => S x ∧ x ≠ R) w b m n := by
  obtain ⟨D, h1, h2, h3⟩ := h
  refine ⟨D, h1, h2, fun k hk => ?_⟩
  have h4 := h3 k hk
  cases hm : m k with
  | none => rw [hm] at h4; exact h4
  | some xs =>
    rw [hm] at h4
    obtain ⟨a, v, c, d⟩ := h4
    exact ⟨a, v, c, d.past hR⟩
theorem Dk.past {w w' : World} {B bs bp R : Nat} {s : DSt} (h : Dk w B bs bp s) (hR : NoU8 w R) (f : Fr (fun x => x ≠ R) w w') (o : Off B bs bp R) : Dk w' B bs bp s where
  c0 := f.cell (p := ⟨B, 0, none⟩) (Ne.symm o.1) h.c0
  c1 := f.cell (p := ⟨B, 1, none⟩) (Ne.symm o.1) h.c1
  c2 := f.cell (p := ⟨B, 2, none⟩) (Ne.symm o.1) h.c2
  c3 := f.cell (p := ⟨B, 3, none⟩) (Ne.symm o.1) h.c3
  c4 := f.cell (p := ⟨B, 4, none⟩) (Ne.symm o.1) h.c4
  c5 := f.cell (p := ⟨B, 5, none⟩) (Ne.symm o.1) h.c5
  cz := fun j => (World.frozen?_of_block (a := ⟨B, j, none⟩) (f.block _ h.lt (Ne.symm o.1))).trans (h.cz j)
  syn := ((h.syn.past hR).move f (Ne.symm o.2.1) fun _ hx _ => hx.2).mono fun _ hx _ => hx.1
  pen := ((h.pen.past hR).move f (Ne.symm o.2.2) fun _ hx _ => hx.2).mono fun _ hx _ => hx.1
  n1 := h.n1
  n2 := h.n2
  n3 := h.n3
theorem Held.past {w0 w w' : World} {B bs bp R : Nat} {s : DSt} (h : Held w0 w B bs bp s) (hR : NoU8 w R) (hl : w0.heap.size ≤ R) (f : Fr (fun x => x ≠ R) w w') (o : Off B bs bp R) : Held w0 w' B bs bp s :=
  ⟨h.dk.past hR f o, h.l0, h.l1, h.l2, h.fr.over f fun x hx => by omega⟩

/-! ### What they answer -/
def DSt.wcode (s : DSt) (i : Int) (n : Nat) : Int := if s.up.down = true then 110 else if i < 0 ∨ s.blocks ≤ i then 109 else if 256 < n then 104 else 0
def DSt.wst (s : DSt) (i : Int) (xs : List UInt8) : DSt := if s.wcode i xs.length = 0 then s.wrote i xs else s.up
def DSt.scode (s : DSt) : Int := if s.up.down = true then 110 else 0
def DSt.sst (s : DSt) (n : Nat) : DSt := if s.up.down = true then s.up else s.synced n
def DSt.rcode (s : DSt) (i : Int) : Int := if s.down = true then 110 else if i < 0 ∨ s.blocks ≤ i then 109 else 0
def DSt.rget (s : DSt) (i : Int) : Option (List UInt8) := if s.rcode i = 0 then s.get i else none
def RSt.wcode (r : RSt) (i : Int) (n : Nat) : Int := if r.power.down = true then 110 else if i < 0 ∨ r.blocks ≤ i then 109 else if 256 < n then 104 else 0
def RSt.wst (r : RSt) (i : Int) (xs : List UInt8) : RSt := if r.wcode i xs.length = 0 then { r.power with pend := rins (i, xs) r.power.pend, calls := r.power.calls + 1 } else r.power
def RSt.scode (r : RSt) : Int := if r.power.down = true then 110 else 0
def RSt.sst (r : RSt) : RSt := if r.power.down = true then r.power else { r.power with kept := rsync r.power.kept r.power.pend, pend := [], calls := r.power.calls + 1 }
def RSt.rcode (r : RSt) (i : Int) : Int := if r.down = true then 110 else if i < 0 ∨ r.blocks ≤ i then 109 else 0
def RSt.rget (r : RSt) (i : Int) : Option (List UInt8) := if r.rcode i = 0 then (rfind r.pend i <|> rfind r.kept i) else none

section
variable {w0 w : World} {B bs bp : Nat} {s : DSt} {qs : List Addr}
theorem d_write (h : Held w0 w B bs bp s) (he : Errs w0 qs) {S : Nat → Prop} {v : Value} {xs : List UInt8} {i : Int} (hv : Sl kByte S w v xs) (hS : ∀ x, S x → x < w.heap.size → x ≠ B) (ha : s.arm ≤ 9223372036854775807) (hb : s.blocks ≤ 16384) (hn : s.np ≤ 100000) (hc0 : 0 ≤ s.calls) (hc : s.calls ≤ 1000000) :
    Calls Tryd.prog 26 #[.pointer (some ⟨B, 0, none⟩), .int .i64 i, v] w fun e w' => ∃ z, e = .returned z ∧ Sees w0 z (s.wcode i xs.length) false 0 ∧ Held w0 w' B bs bp (s.wst i xs) ∧ Fr (Off B bs bp) w w' := by
  obtain ⟨A, n, c, rfl, en, _⟩ := hv.open_
  cases hu : s.up.down with
  | true =>
    obtain ⟨a, hk⟩ := he.get 9 (by omega)
    have hw : s.wcode i xs.length = 110 := by rw [DSt.wcode, if_pos hu]
    refine (bad_write h he hk ha hu i A n c).mono ?_
    rintro e w' ⟨rfl, h', f⟩
    refine ⟨_, rfl, by rw [hw]; exact Sees.bare he hk, ?_, f⟩
    rw [DSt.wst, hw, if_neg (by decide)]
    exact h'
  | false =>
    by_cases hi : i < 0 ∨ s.blocks ≤ i
    · obtain ⟨a, hk⟩ := he.get 8 (by omega)
      have hw : s.wcode i xs.length = 109 := by rw [DSt.wcode, if_neg (by rw [hu]; decide), if_pos hi]
      refine (full_write h he hk ha hu hi A n c).mono ?_
      rintro e w' ⟨rfl, h', f⟩
      refine ⟨_, rfl, by rw [hw]; exact Sees.bare he hk, ?_, f⟩
      rw [DSt.wst, hw, if_neg (by decide)]
      exact h'
    · by_cases hl : 256 < xs.length
      · obtain ⟨a, hk⟩ := he.get 3 (by omega)
        have hw : s.wcode i xs.length = 104 := by rw [DSt.wcode, if_neg (by rw [hu]; decide), if_neg hi, if_pos hl]
        refine (many_write h he hk ha hu (by omega) (by omega) A (by omega) c).mono ?_
        rintro e w' ⟨rfl, h', f⟩
        refine ⟨_, rfl, by rw [hw]; exact Sees.bare he hk, ?_, f⟩
        rw [DSt.wst, hw, if_neg (by decide)]
        exact h'
      · have hw : s.wcode i xs.length = 0 := by rw [DSt.wcode, if_neg (by rw [hu]; decide), if_neg hi, if_neg hl]
        refine (held_wrote h hv hS ha hu (by omega) (by omega) hb (by omega) hn hc0 hc).mono ?_
        rintro e w' ⟨rfl, h', f⟩
        refine ⟨_, rfl, by rw [hw]; exact Sees.nil_ w0, ?_, f⟩
        rw [DSt.wst, hw, if_pos rfl]
        exact h'
theorem d_sync (h : Held w0 w B bs bp s) (he : Errs w0 qs) (ha : s.arm ≤ 9223372036854775807) (hn : s.ns + s.np ≤ 100000) (hc0 : 0 ≤ s.calls) (hc : s.calls ≤ 1000000) :
    Calls Tryd.prog 36 #[.pointer (some ⟨B, 0, none⟩)] w fun e w' => ∃ z n', e = .returned z ∧ Sees w0 z s.scode false 0 ∧ n' ≤ s.ns + s.np ∧ Held w0 w' B bs bp (s.sst n') ∧ Fr (Off B bs bp) w w' := by
  cases hu : s.up.down with
  | true =>
    obtain ⟨a, hk⟩ := he.get 9 (by omega)
    have hw : s.scode = 110 := by rw [DSt.scode, if_pos hu]
    refine (bad_sync h he hk ha hu).mono ?_
    rintro e w' ⟨rfl, h', f⟩
    refine ⟨_, 0, rfl, by rw [hw]; exact Sees.bare he hk, Nat.zero_le _, ?_, f⟩
    rw [DSt.sst, if_pos hu]
    exact h'
  | false =>
    have hw : s.scode = 0 := by rw [DSt.scode, if_neg (by rw [hu]; decide)]
    refine (held_synced h ha hu hn hc0 hc).mono ?_
    rintro e w' ⟨n', rfl, hn', h', f⟩
    refine ⟨_, n', rfl, by rw [hw]; exact Sees.nil_ w0, hn', ?_, f⟩
    rw [DSt.sst, if_neg (by rw [hu]; decide)]
    exact h'
theorem d_read (h : Held w0 w B bs bp s) (he : Errs w0 qs) (i : Int) (hb : s.blocks ≤ 16384) (hl : ∀ xs, s.get i = some xs → xs.length ≤ 1000000) :
    Calls Tryd.prog 27 #[.pointer (some ⟨B, 0, none⟩), .int .i64 i] w fun e w' => ∃ A n c xs z, e = .returned (.tuple #[.slice A n c, .bool (s.rget i).isSome, z]) ∧ Sees w0 z (s.rcode i) false 0 ∧ xs = (s.rget i).getD [] ∧ Sl kByte All w' (.slice A n c) xs ∧ Held w0 w' B bs bp s ∧ Fr All w w' := by
  cases hd : s.down with
  | true =>
    obtain ⟨a, hk⟩ := he.get 9 (by omega)
    have hw : s.rcode i = 110 := by rw [DSt.rcode, if_pos hd]
    have hg : s.rget i = none := by rw [DSt.rget, hw, if_neg (by decide)]
    refine (bad_read h he hk hd i).mono ?_
    rintro e w' ⟨rfl, h', f⟩
    exact ⟨none, 0, 0, [], _, by rw [hg]; rfl, by rw [hw]; exact Sees.bare he hk, by rw [hg]; rfl, Sl.nil_ _ _ _, h', f⟩
  | false =>
    by_cases hi : i < 0 ∨ s.blocks ≤ i
    · obtain ⟨a, hk⟩ := he.get 8 (by omega)
      have hw : s.rcode i = 109 := by rw [DSt.rcode, if_neg (by rw [hd]; decide), if_pos hi]
      have hg : s.rget i = none := by rw [DSt.rget, hw, if_neg (by decide)]
      refine (full_read h he hk hd hi).mono ?_
      rintro e w' ⟨rfl, h', f⟩
      exact ⟨none, 0, 0, [], _, by rw [hg]; rfl, by rw [hw]; exact Sees.bare he hk, by rw [hg]; rfl, Sl.nil_ _ _ _, h', f⟩
    · have hw : s.rcode i = 0 := by rw [DSt.rcode, if_neg (by rw [hd]; decide), if_neg hi]
      have hg : s.rget i = s.get i := by rw [DSt.rget, hw, if_pos rfl]
      refine (held_read h hd (by omega) (by omega) hb hl).mono ?_
      rintro e w' ⟨A, n, c, xs, rfl, hx, ho, h', f⟩
      exact ⟨A, n, c, xs, _, by rw [hg], by rw [hw]; exact Sees.nil_ w0, by rw [hg]; exact hx, ho.sl.mono fun _ _ _ => trivial, h', f⟩
end

section
variable {T : Nat → Prop} {w : World} {R : Nat} {r : RSt}
theorem r_write (h : Rk T w R r) (hT : ∀ x, w.heap.size ≤ x → T x) {v : Value} {xs : List UInt8} {S : Nat → Prop} {i : Int} (hv : Sl kByte S w v xs) (hS : ∀ x, S x → x < w.heap.size → x ≠ R) (hf : r.fuse ≤ 9223372036854775807) (hn : r.pend.length ≤ 1000000) (hc0 : 0 ≤ r.calls) (hc : r.calls ≤ 1000000) :
    Calls Tryd.prog 45 #[.pointer (some ⟨R, 0, none⟩), .int .i64 i, v] w fun e w' => e = .returned (.int .i64 (r.wcode i xs.length)) ∧ Rk T w' R (r.wst i xs) ∧ Fr (fun x => x ≠ R) w w' := by
  obtain ⟨A, n, c, rfl, en, _⟩ := hv.open_
  cases hu : r.power.down with
  | true =>
    have hw : r.wcode i xs.length = 110 := by rw [RSt.wcode, if_pos hu]
    rw [RSt.wst, hw, if_neg (by decide)]
    exact rwrite_down h hf hu i A n c
  | false =>
    by_cases hi : i < 0 ∨ r.blocks ≤ i
    · have hw : r.wcode i xs.length = 109 := by rw [RSt.wcode, if_neg (by rw [hu]; decide), if_pos hi]
      rw [RSt.wst, hw, if_neg (by decide)]
      exact rwrite_out h hf hu hi A n c
    · by_cases hl : 256 < xs.length
      · have hw : r.wcode i xs.length = 104 := by rw [RSt.wcode, if_neg (by rw [hu]; decide), if_neg hi, if_pos hl]
        rw [RSt.wst, hw, if_neg (by decide)]
        exact rwrite_many h hf hu (by omega) (by omega) A (by omega) c
      · have hw : r.wcode i xs.length = 0 := by rw [RSt.wcode, if_neg (by rw [hu]; decide), if_neg hi, if_neg hl]
        rw [RSt.wst, hw, if_pos rfl]
        exact rwrite_ok h hT hv hS hf hu (by omega) (by omega) (by omega) hn hc0 hc
theorem r_sync (h : Rk T w R r) (hT : ∀ x, w.heap.size ≤ x → T x) (hf : r.fuse ≤ 9223372036854775807) (hn : r.kept.length + r.pend.length ≤ 1000000) (hc0 : 0 ≤ r.calls) (hc : r.calls ≤ 1000000) :
    Calls Tryd.prog 46 #[.pointer (some ⟨R, 0, none⟩)] w fun e w' => e = .returned (.int .i64 r.scode) ∧ Rk T w' R r.sst ∧ Fr (fun x => x ≠ R) w w' := by
  cases hu : r.power.down with
  | true =>
    rw [RSt.scode, RSt.sst, if_pos hu, if_pos hu]
    exact rsync_down h hf hu
  | false =>
    rw [RSt.scode, RSt.sst, if_neg (by rw [hu]; decide), if_neg (by rw [hu]; decide)]
    exact rsync_ok h hT hf hu hn hc0 hc
theorem r_read (h : Rk T w R r) (i : Int) (hn : r.kept.length + r.pend.length ≤ 1000000) :
    Calls Tryd.prog 50 #[.pointer (some ⟨R, 0, none⟩), .int .i64 i] w fun e w' => ∃ A n c xs, e = .returned (.tuple #[.slice A n c, .bool (r.rget i).isSome, .int .i64 (r.rcode i)]) ∧ xs = (r.rget i).getD [] ∧ Sl kByte All w (.slice A n c) xs ∧ w' = w := by
  cases hd : r.down with
  | true =>
    have hw : r.rcode i = 110 := by rw [RSt.rcode, if_pos hd]
    have hg : r.rget i = none := by rw [RSt.rget, hw, if_neg (by decide)]
    rw [hg, hw]
    refine (rread_down h hd i).mono ?_
    rintro e w' ⟨rfl, hw'⟩
    exact ⟨none, 0, 0, [], rfl, rfl, Sl.nil_ _ _ _, hw'⟩
  | false =>
    by_cases hi : i < 0 ∨ r.blocks ≤ i
    · have hw : r.rcode i = 109 := by rw [RSt.rcode, if_neg (by rw [hd]; decide), if_pos hi]
      have hg : r.rget i = none := by rw [RSt.rget, hw, if_neg (by decide)]
      rw [hg, hw]
      refine (rread_out h hd hi).mono ?_
      rintro e w' ⟨rfl, hw'⟩
      exact ⟨none, 0, 0, [], rfl, rfl, Sl.nil_ _ _ _, hw'⟩
    · have hw : r.rcode i = 0 := by rw [RSt.rcode, if_neg (by rw [hd]; decide), if_neg hi]
      have hg : r.rget i = (rfind r.pend i <|> rfind r.kept i) := by rw [RSt.rget, hw, if_pos rfl]
      rw [hg, hw]
      exact rread_call h hd (by omega) (by omega) (by omega) (by omega)
end

/-! ### They go on together -/
theorem rsync_mem {x : Blk} : ∀ {l k : List Blk}, x ∈ rsync k l → x ∈ k ∨ x ∈ l
  | [], _, h => .inl h
  | p :: ps, k, h => by
    have h' : x ∈ rsync (rins p k) ps := h
    rcases rsync_mem h' with h1 | h1
    · rcases rins_mem h1 with rfl | h2
      · exact .inr List.mem_cons_self
      · exact .inl h2
    · exact .inr (List.mem_cons_of_mem _ h1)
theorem rpick_small {od : Int → Bool} {k l : List Blk} {ps : List Int} (hk : ∀ x ∈ k, x.2.length ≤ 256) (hl : ∀ x ∈ l, x.2.length ≤ 256) : ∀ j, ∀ x ∈ rpick od k l ps j, x.2.length ≤ 256
  | 0, x, hx => hk x hx
  | j + 1, x, hx => by
    rw [rpick] at hx
    split at hx
    · rcases rins_mem hx with rfl | h2
      · rw [List.getD_eq_getElem?_getD]
        cases hj : l[j]? with
        | none => simp
        | some y => exact hl y (List.mem_of_getElem? hj)
      · exact rpick_small hk hl j x h2
    · exact rpick_small hk hl j x hx

structure PlB (s : DSt) (r : RSt) (k : Nat) : Prop where
  mt : Mt s r
  b0 : 1 ≤ s.blocks
  b1 : s.blocks ≤ 16384
  c0 : 0 ≤ s.calls
  c1 : s.calls ≤ k
  n : s.ns + s.np ≤ k
  rn : r.kept.length + r.pend.length ≤ k
  arm : s.arm ≤ 9223372036854775807
  sk : ∀ x ∈ r.kept, x.2.length ≤ 256
  sp : ∀ x ∈ r.pend, x.2.length ≤ 256
section
variable {s : DSt} {r : RSt} {k : Nat}
theorem PlB.more (h : PlB s r k) : PlB s r (k + 1) := ⟨h.mt, h.b0, h.b1, h.c0, by have := h.c1; omega, by have := h.n; omega, by have := h.rn; omega, h.arm, h.sk, h.sp⟩
theorem up_arm (s : DSt) (h : s.arm ≤ 9223372036854775807) : s.up.arm ≤ 9223372036854775807 := by
  unfold DSt.up
  split
  · show s.arm - 1 ≤ _
    omega
  · exact h
theorem PlB.up (h : PlB s r k) : PlB s.up r.power k := by
  obtain ⟨g1, g2, g3, g4, g5, g6⟩ := s.up_same
  obtain ⟨e1, e2, e3, e4⟩ := r.power_same
  exact ⟨h.mt.up, by rw [g6]; exact h.b0, by rw [g6]; exact h.b1, by rw [g5]; exact h.c0, by rw [g5]; exact h.c1, by rw [g4, g2]; exact h.n, by rw [e1, e2]; exact h.rn, up_arm s h.arm, by rw [e2]; exact h.sk, by rw [e1]; exact h.sp⟩
theorem Mt.wcode (h : Mt s r) (i : Int) (n : Nat) : s.wcode i n = r.wcode i n := by
  unfold DSt.wcode RSt.wcode
  rw [h.up.down, h.blocks]
theorem Mt.scode (h : Mt s r) : s.scode = r.scode := by
  unfold DSt.scode RSt.scode
  rw [h.up.down]
theorem Mt.rcode (h : Mt s r) (i : Int) : s.rcode i = r.rcode i := by
  unfold DSt.rcode RSt.rcode
  rw [h.down, h.blocks]
theorem Mt.rget (h : Mt s r) (i : Int) : s.rget i = r.rget i := by
  unfold DSt.rget RSt.rget
  rw [h.rcode, h.get]
theorem PlB.wst (h : PlB s r k) (i : Int) (xs : List UInt8) : PlB (s.wst i xs) (r.wst i xs) (k + 1) := by
  have hw := h.mt.wcode i xs.length
  by_cases hc : s.wcode i xs.length = 0
  · rw [DSt.wst, if_pos hc, RSt.wst, if_pos (hw ▸ hc)]
    have hlen : xs.length ≤ 256 ∧ 0 ≤ i ∧ i < s.blocks := by
      unfold DSt.wcode at hc
      split at hc
      · cases hc
      · split at hc
        · cases hc
        · split at hc
          · cases hc
          · omega
    have u := h.up
    have hb := h.b1
    have m := h.mt.wrote (i := i) (in64_of (by omega) (by omega)) xs
    have hl := rins_le (i, xs) r.power.pend
    refine ⟨m, u.b0, u.b1, ?_, ?_, ?_, ?_, u.arm, u.sk, fun x hx => ?_⟩
    · show 0 ≤ s.up.calls + 1
      have := u.c0
      omega
    · show s.up.calls + 1 ≤ _
      have := u.c1
      omega
    · show s.up.ns + (if (s.up.pen i).isSome then s.up.np else s.up.np + 1) ≤ _
      have := u.n
      split <;> omega
    · show r.power.kept.length + (rins (i, xs) r.power.pend).length ≤ _
      have := u.rn
      omega
    · rcases rins_mem hx with rfl | hx
      · exact hlen.1
      · exact u.sp x hx
  · rw [DSt.wst, if_neg hc, RSt.wst, if_neg (hw ▸ hc)]
    exact h.up.more
theorem PlB.sst (h : PlB s r k) {n : Nat} (hn : n ≤ s.ns + s.np) : PlB (s.sst n) r.sst (k + 1) := by
  unfold DSt.sst RSt.sst
  rw [h.mt.up.down]
  split
  · exact h.up.more
  · have u := h.up
    have hl := rsync_le r.power.pend r.power.kept
    have hnn := h.n
    refine ⟨h.mt.synced n, u.b0, u.b1, ?_, ?_, ?_, ?_, u.arm, fun x hx => ?_, fun x hx => by cases hx⟩
    · show 0 ≤ s.up.calls + 1
      have := u.c0
      omega
    · show s.up.calls + 1 ≤ _
      have := u.c1
      omega
    · show n + 0 ≤ _
      omega
    · show (rsync r.power.kept r.power.pend).length + 0 ≤ _
      have := u.rn
      omega
    · rcases rsync_mem hx with hx | hx
      · exact u.sk x hx
      · exact u.sp x hx
theorem PlB.armed (h : PlB s r k) {n : Int} (hn : In64 n) : PlB { s with arm := max n 0 } { r with fuse := max n 0 } (k + 1) := by
  have hb : n ≤ 9223372036854775807 := by
    have e2 : IntKind.i64.max = 9223372036854775807 := by decide
    simp only [In64, Lit.wf, e2, Bool.and_eq_true, decide_eq_true_eq] at hn
    exact hn.2
  refine ⟨h.mt.armed n, h.b0, h.b1, h.c0, by have := h.c1; show s.calls ≤ _; omega, by have := h.n; show s.ns + s.np ≤ _; omega, by have := h.rn; show r.kept.length + r.pend.length ≤ _; omega, ?_, h.sk, h.sp⟩
  show max n 0 ≤ _
  omega
theorem PlB.erased (h : PlB s r k) : PlB s.erased { r with kept := [], pend := [], down := false, fuse := 0 } (k + 1) :=
  ⟨h.mt.erased, h.b0, h.b1, h.c0, by have := h.c1; show s.calls ≤ _; omega, Nat.zero_le _, Nat.zero_le _, by show (0 : Int) ≤ _; omega, (fun x hx => by cases hx), fun x hx => by cases hx⟩
theorem PlB.crashed (h : PlB s r k) {ks : List Int} (hk : s.Keys ks) (ps : List Int) {n : Nat} (hn : n ≤ s.ns + s.np) : PlB (s.crashed (pickTo odd64 s.pen s.syn ks ps ks.length) n) { r with kept := rpick odd64 r.kept r.pend ps r.pend.length, pend := [], down := false, fuse := 0 } (k + 1) := by
  have hl := rpick_le odd64 r.kept r.pend ps r.pend.length
  refine ⟨h.mt.crashed hk ps n, h.b0, h.b1, h.c0, by have := h.c1; show s.calls ≤ _; omega, by have := h.n; show n + 0 ≤ _; omega, by have := h.rn; show (rpick odd64 r.kept r.pend ps r.pend.length).length + 0 ≤ _; omega, by show (0 : Int) ≤ _; omega, rpick_small h.sk h.sp _, fun x hx => by cases hx⟩
theorem PlB.small (h : PlB s r k) {i : Int} {xs : List UInt8} (hx : s.get i = some xs) : xs.length ≤ 256 := by
  rw [h.mt.get] at hx
  cases hp : rfind r.pend i with
  | some ys =>
    rw [hp] at hx
    obtain rfl : ys = xs := Option.some.inj hx
    exact h.sp _ (rfind_some hp)
  | none =>
    rw [hp] at hx
    have hx' : rfind r.kept i = some xs := hx
    exact h.sk _ (rfind_some hx')
theorem PlB.rsmall (h : PlB s r k) (i : Int) : ((r.rget i).getD []).length ≤ 256 := by
  rw [← h.mt.rget]
  unfold DSt.rget
  split
  · cases hg : s.get i with
    | none => simp
    | some xs => exact h.small hg
  · simp
theorem PlB.start {n : Int} (h0 : 1 ≤ n) (h1 : n ≤ 16384) : PlB (DSt.new n) ⟨n, 0, [], [], 0, false⟩ 0 :=
  ⟨Mt.start n, h0, h1, by simp [DSt.new], by simp [DSt.new], Nat.le_refl _, Nat.le_refl _, by simp [DSt.new], (fun x hx => by cases hx), fun x hx => by cases hx⟩
end
end Go.Proofs.YteikddopeplomaaDoor
