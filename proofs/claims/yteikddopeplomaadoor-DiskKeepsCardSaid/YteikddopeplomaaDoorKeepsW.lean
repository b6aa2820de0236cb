/- The walk of the law on what a disk keeps behind a crash. -/
import Derived.Test.YteikddopeplomaaDoorDkL
import Derived.Test.YteikddopeplomaaDoorRefY
namespace Go.Proofs.YteikddopeplomaaDoor
open Go.RowKit Go.Maps

/-- j even blocks written. -/
structure Keep1 (s : DSt) (xs : List UInt8) (j : Nat) : Prop where
  blocks : s.blocks = 16
  arm : s.arm = 0
  down : s.down = false
  calls : s.calls = j
  np : s.np = j
  ns : s.ns = 0
  syn : ∀ k, s.syn k = none
  pen : ∀ k, s.pen k = if 0 ≤ k ∧ k < 2 * j ∧ k % 2 = 0 then some xs else none
theorem Keep1.start (xs : List UInt8) : Keep1 (DSt.new 16) xs 0 := ⟨rfl, rfl, rfl, rfl, rfl, rfl, fun _ => rfl, fun k => by
  rw [if_neg (by omega)]
  rfl⟩
theorem Keep1.step {s : DSt} {xs : List UInt8} {j : Nat} (h : Keep1 s xs j) : Keep1 (s.put (2 * (j : Int)) xs) xs (j + 1) := by
  have hn : s.pen (2 * (j : Int)) = none := by rw [h.pen, if_neg (by omega)]
  refine ⟨h.blocks, h.arm, h.down, ?_, ?_, h.ns, h.syn, fun k => ?_⟩
  · show s.calls + 1 = _
    rw [h.calls]
    omega
  · show (if (s.pen (2 * (j : Int))).isSome then s.np else s.np + 1) = _
    rw [hn, h.np]
    rfl
  · show upd s.pen _ xs k = _
    simp only [upd]
    by_cases hk : k = 2 * (j : Int)
    · rw [if_pos hk, if_pos (by omega)]
    · rw [if_neg hk, h.pen]
      by_cases hc : 0 ≤ k ∧ k < 2 * (j : Int) ∧ k % 2 = 0
      · rw [if_pos hc, if_pos (by omega)]
      · rw [if_neg hc, if_neg (by omega)]

/-- j blocks written behind the Sync. -/
structure Keep2 (s : DSt) (xs ys : List UInt8) (j : Nat) : Prop where
  blocks : s.blocks = 16
  arm : s.arm = 0
  down : s.down = false
  calls : s.calls = 9 + j
  np : s.np = j
  ns : s.ns ≤ 8
  syn : ∀ k, s.syn k = if 0 ≤ k ∧ k < 16 ∧ k % 2 = 0 then some xs else none
  pen : ∀ k, s.pen k = if 0 ≤ k ∧ k < j then some ys else none
theorem Keep1.sync {s : DSt} {xs : List UInt8} (h : Keep1 s xs 8) (ys : List UInt8) {n : Nat} (hn : n ≤ s.ns + s.np) : Keep2 (s.sync n) xs ys 0 := by
  refine ⟨h.blocks, h.arm, h.down, ?_, rfl, ?_, fun k => ?_, fun k => ?_⟩
  · show s.calls + 1 = _
    rw [h.calls]
    omega
  · show n ≤ 8
    rw [h.ns, h.np] at hn
    omega
  · show (s.pen k <|> s.syn k) = _
    rw [h.syn, h.pen]
    by_cases hc : 0 ≤ k ∧ k < 2 * ((8 : Nat) : Int) ∧ k % 2 = 0
    · rw [if_pos hc, if_pos (by omega)]
      rfl
    · rw [if_neg hc, if_neg (by omega)]
      rfl
  · rw [if_neg (by omega)]
    rfl
theorem Keep2.step {s : DSt} {xs ys : List UInt8} {j : Nat} (h : Keep2 s xs ys j) : Keep2 (s.put (j : Int) ys) xs ys (j + 1) := by
  have hn : s.pen (j : Int) = none := by rw [h.pen, if_neg (by omega)]
  refine ⟨h.blocks, h.arm, h.down, ?_, ?_, h.ns, h.syn, fun k => ?_⟩
  · show s.calls + 1 = _
    rw [h.calls]
    omega
  · show (if (s.pen (j : Int)).isSome then s.np else s.np + 1) = _
    rw [hn, h.np]
    rfl
  · show upd s.pen _ ys k = _
    simp only [upd]
    by_cases hk : k = (j : Int)
    · rw [if_pos hk, if_pos (by omega)]
    · rw [if_neg hk, h.pen]
      by_cases hc : 0 ≤ k ∧ k < (j : Int)
      · rw [if_pos hc, if_pos (by omega)]
      · rw [if_neg hc, if_neg (by omega)]

/-- Rising numbers that are just those from lo on, n of them. -/
theorem rising_all : ∀ (n : Nat) (lo : Int) (ks : List Int), ks.Pairwise (· < ·) → (∀ k, k ∈ ks ↔ lo ≤ k ∧ k < lo + n) → ∀ i : Nat, i < n → ks[i]? = some (lo + i)
  | 0, _, _, _, _, i, hi => by omega
  | n + 1, lo, [], _, hm, _, _ => by
    have := (hm lo).2 ⟨by omega, by omega⟩
    cases this
  | n + 1, lo, x :: xs, hs, hm, i, hi => by
    obtain ⟨h1, h2⟩ := List.pairwise_cons.1 hs
    have hx := (hm x).1 List.mem_cons_self
    have hlo := (hm lo).2 ⟨by omega, by omega⟩
    have hxl : x = lo := by
      rcases List.mem_cons.1 hlo with h | h
      · exact h.symm
      · have := h1 _ h
        omega
    subst hxl
    cases i with
    | zero => simp
    | succ i =>
      rw [List.getElem?_cons_succ, rising_all n (x + 1) xs h2 (fun k => ?_) i (by omega)]
      · congr 1
        omega
      · constructor
        · intro hk
          have := (hm k).1 (List.mem_cons_of_mem _ hk)
          have := h1 k hk
          omega
        · intro hk
          rcases List.mem_cons.1 ((hm k).2 ⟨by omega, by omega⟩) with h | h
          · omega
          · exact h

/-- Behind the crash. -/
structure Keep3 (s : DSt) (xs ys : List UInt8) (ps : List Int) : Prop where
  blocks : s.blocks = 16
  down : s.down = false
  np : s.np = 0
  get : ∀ j : Nat, j < 16 → s.get j = if isPick odd64 ps j then some ys else if j % 2 = 0 then some xs else none
theorem Keep2.crash {s : DSt} {xs ys : List UInt8} (h : Keep2 s xs ys 16) {ks ps : List Int} (hk : s.Keys ks) (n : Nat) : Keep3 (s.crashed (pickTo odd64 s.pen s.syn ks ps ks.length) n) xs ys ps := by
  refine ⟨h.blocks, rfl, rfl, fun j hj => ?_⟩
  have hm : ∀ k, k ∈ ks ↔ (0 : Int) ≤ k ∧ k < 0 + (16 : Nat) := fun k => by
    rw [hk.mem, h.pen]
    constructor
    · rintro ⟨_, h2⟩
      by_cases hc : 0 ≤ k ∧ k < ((16 : Nat) : Int)
      · omega
      · rw [if_neg hc] at h2
        cases h2
    · intro hc
      refine ⟨in64_of (by omega) (by omega), ?_⟩
      rw [if_pos (by omega)]
      rfl
  have hi := rising_all 16 0 ks hk.rise hm j hj
  rw [Int.zero_add] at hi
  have hl := hk.len
  rw [h.np] at hl
  show (none <|> pickTo odd64 s.pen s.syn ks ps ks.length (j : Int)) = _
  rw [pickTo_at hk.rise hi ks.length (Nat.le_refl _) (by omega)]
  by_cases hp : isPick odd64 ps j = true
  · rw [if_pos hp, if_pos hp, h.pen, if_pos (by omega)]
    rfl
  · rw [if_neg hp, if_neg hp, h.syn]
    by_cases he : j % 2 = 0
    · rw [if_pos he, if_pos (by omega)]
      rfl
    · rw [if_neg he, if_neg (by omega)]
      rfl

set_option hygiene false in
set_option maxRecDepth 100000 in
set_option maxHeartbeats 4000000 in
theorem keeps_walk {w : World} {v u p : Value} {xs ys : List UInt8} {ps : List Int} {S T U : Nat → Prop} (s0 : Sl kByte S w v xs) (s1 : Sl kByte T w u ys) (s2 : Sl kInt U w p ps) :
    Calls Tryd.prog 6 #[v, u, p] w fun e w' => e = .returned (.bool true) ∧ Fr All w w' := by
  obtain ⟨A0, n0, c0, rfl, e0, _⟩ := s0.open_
  obtain ⟨A1, n1, c1, rfl, e1, _⟩ := s1.open_
  obtain ⟨A2, n2, c2, rfl, e2, _⟩ := s2.open_
  have E0 := Lib.hid e0
  have E1 := Lib.hid e1
  have E2 := Lib.hid e2
  clear e0 e1 e2
  go_enter Tryd.func6, Tryd.ntmps6
  go_wp2_with fail
  refine (first5_call w).mono ?_
  rintro e w1 ⟨rfl, f1⟩
  cases g0 : decide ((n0 : Int) > 200) with
  | true =>
    go_wp2_with fail
    go_ret
    exact ⟨rfl, f1⟩
  | false =>
  cases g1 : decide ((n1 : Int) > 200) with
  | true =>
    go_wp2_with fail
    go_ret
    exact ⟨rfl, f1⟩
  | false =>
  cases g2 : decide ((n2 : Int) > 16) with
  | true =>
    go_wp2_with fail
    go_ret
    exact ⟨rfl, f1⟩
  | false =>
  have hn0 : n0 ≤ 200 := by have := of_decide_eq_false g0; omega
  have hn1 : n1 ≤ 200 := by have := of_decide_eq_false g1; omega
  have hn2 : n2 ≤ 16 := by have := of_decide_eq_false g2; omega
  have HS0 := Lib.hid (s0.all f1)
  have HS1 := Lib.hid (s1.all f1)
  have HS2 := Lib.hid (s2.all f1)
  clear s0 s1 s2
  go_wp2_with fail
  refine (held_new w1 (by omega) (by omega)).mono ?_
  rintro e w2 ⟨B, bs, bp, rfl, h2⟩
  have H2 := Lib.hid h2
  clear h2
  go_wp2_with fail
  go_loopw [10] (fun i wr => ∃ j : Nat, ∃ s, j ≤ 8 ∧ i = .int .i64 j ∧ Hid (Keep1 s xs j) ∧ Hid (Held w1 wr B bs bp s)) (fun i _ => 8 - (intOf i).toNat)
  case atStart => exact ⟨0, _, Nat.zero_le _, rfl, Keep1.start xs, H2⟩
  case round =>
    obtain ⟨j, s, hj, rfl, HK, HH⟩ := hrel
    have K := HK.out
    by_cases hlt : j < 8
    · have b1 : (j : Int) < 8 := by omega
      have hw : IntKind.i64.wrap (2 * (j : Int)) = 2 * (j : Int) := IntWalk.i64_in _ (by omega)
      clear K
      go_wp2_with fail
      have K := HK.out
      refine (held_write HH.out (HH.out.arg HS0.out) (fun x hx _ => by have := HH.out.l0; omega) K.arm K.down (by omega) (by rw [K.blocks]; omega) (by rw [K.blocks]; omega) (by rw [E0.out]; omega) (by rw [K.np]; omega) (by rw [K.calls]; omega) (by rw [K.calls]; omega)).mono ?_
      rintro e w3 ⟨rfl, h3, f3⟩
      have H3 := Lib.hid h3
      have K3 := Lib.hid K.step
      clear h3 f3 K
      go_wp2_with fail
      go_roundw
      case rel => exact ⟨j + 1, _, by omega, by go_num, K3, H3⟩
      case measure => simp [intOf]; omega
    · obtain rfl : j = 8 := by omega
      clear K
      go_wp2_with fail
      have K := HK.out
      refine (held_sync HH.out K.arm K.down (by rw [K.np, K.ns]; omega) (by rw [K.calls]; omega) (by rw [K.calls]; omega)).mono ?_
      rintro e w4 ⟨n4, rfl, hn4, h4, f4⟩
      have H4 := Lib.hid h4
      have K4 := Lib.hid (K.sync ys hn4)
      clear h4 hn4 f4 K
      go_wp2_with fail
      go_loopw [11] (fun i wr => ∃ j : Nat, ∃ s, j ≤ 16 ∧ i = .int .i64 j ∧ Hid (Keep2 s xs ys j) ∧ Hid (Held w1 wr B bs bp s)) (fun i _ => 16 - (intOf i).toNat)
      case atStart => exact ⟨0, _, Nat.zero_le _, rfl, K4, H4⟩
      case round =>
        obtain ⟨j, s2, hj2, rfl, HK2, HH2⟩ := hrel
        by_cases hlt2 : j < 16
        · have b1 : (j : Int) < 16 := by omega
          go_wp2_with fail
          have K := HK2.out
          refine (held_write HH2.out (HH2.out.arg HS1.out) (fun _ hx _ => by have := HH2.out.l0; omega) K.arm K.down (by omega) (by rw [K.blocks]; omega) (by rw [K.blocks]; omega) (by rw [E1.out]; omega) (by rw [K.np]; omega) (by rw [K.calls]; omega) (by rw [K.calls]; omega)).mono ?_
          rintro e w5 ⟨rfl, h5, f5⟩
          have H5 := Lib.hid h5
          have K5 := Lib.hid K.step
          clear h5 f5 K
          go_wp2_with fail
          go_roundw
          case rel => exact ⟨j + 1, _, by omega, by go_num, K5, H5⟩
          case measure => simp [intOf]; omega
        · obtain rfl : j = 16 := by omega
          go_wp2_with fail
          have K := HK2.out
          refine (held_crash HH2.out (S := fun x => x < w1.heap.size) ((HS2.out.mono fun _ _ hx => hx).move' HH2.out.fr fun _ _ _ => trivial) (fun x hx _ => HH2.out.offs x hx) (by have := K.ns; rw [K.np]; omega) (by rw [E2.out]; omega)).mono ?_
          rintro e w6 ⟨ks, n6, rfl, hks, hn6, h6, f6⟩
          have K6 := K.crash (ps := ps) hks n6
          obtain ⟨t, ht⟩ : ∃ t, s2.crashed (pickTo odd64 s2.pen s2.syn ks ps ks.length) n6 = t := ⟨_, rfl⟩
          rw [ht] at K6 h6
          have HT := Lib.hid K6
          have H6 := Lib.hid h6
          have HP2 := Lib.hid (HS2.out.mono (T := fun x => x < w1.heap.size) fun _ _ hx => hx)
          clear h6 hks hn6 f6 K6 ht K
          go_wp2_with fail
          go_loopw [12] (fun i wr => ∃ j : Nat, j ≤ 16 ∧ i = .int .i64 j ∧ Hid (Held w1 wr B bs bp t)) (fun i _ => 16 - (intOf i).toNat)
          case atStart => exact ⟨0, Nat.zero_le _, rfl, H6⟩
          case round =>
            obtain ⟨j, hj3, rfl, HH3⟩ := hrel
            by_cases hlt3 : j < 16
            · have b1 : (j : Int) < 16 := by omega
              have hget := HT.out.get j hlt3
              obtain ⟨g, hg⟩ : ∃ g, t.get (j : Int) = g := ⟨_, rfl⟩
              have hgl : ∀ zs, g = some zs → zs.length ≤ 200 := fun zs hz => by
                rw [← hg, hget] at hz
                split at hz
                · obtain rfl := Option.some.inj hz
                  rw [E1.out]
                  omega
                · split at hz
                  · obtain rfl := Option.some.inj hz
                    rw [E0.out]
                    omega
                  · cases hz
              have HG := Lib.hid hg
              rw [hg] at hget
              have HGE := Lib.hid hget
              have HGL := Lib.hid hgl
              clear hg hget hgl
              go_wp2_with fail
              refine (held_read HH3.out HT.out.down (by omega) (by rw [HT.out.blocks]; omega) (by rw [HT.out.blocks]; omega) (fun zs hz => by have := HGL.out zs (by rw [← HG.out]; exact hz); omega)).mono ?_
              rintro e w7 ⟨A7, n7, c7, x7, rfl, hx7, o7, h7, f7⟩
              rw [HG.out] at hx7 ⊢
              have H7 := Lib.hid h7
              have HX7 := Lib.hid hx7
              have HO7 := Lib.hid o7.sl
              clear h7 hx7 o7 f7
              by_cases hp : j < n2
              · obtain ⟨p, hpj, _⟩ := get_of (l := ps) (k := j) (by rw [E2.out]; exact hp)
                obtain ⟨pa, po, rfl, cp⟩ := (HS2.out.all H7.out.fr).at1 hpj
                have b2 : (j : Int) < (n2 : Int) := by omega
                cases hz : (bits .and .i64 p 1 == 1) with
                | true =>
                  have hip : isPick odd64 ps j = true := by
                    unfold isPick
                    rw [hpj]
                    exact hz
                  obtain rfl : g = some ys := by rw [HGE.out, if_pos hip]
                  obtain rfl : ys = x7 := HX7.out.symm
                  have hdd : decide (ys = ys) = true := decide_eq_true rfl
                  clear hpj hip
                  go_wp2_with fail
                  refine (same_bytes HO7.out ((HS1.out.all H7.out.fr)) (by rw [E1.out]; omega)).mono ?_
                  rintro e w8 ⟨rfl, f8⟩
                  have H8 := Lib.hid (H7.out.all f8)
                  clear f8
                  go_wp2_with fail
                  go_roundw
                  case rel => exact ⟨j + 1, by omega, by go_num, H8⟩
                  case measure => simp [intOf]; omega
                | false =>
                  have hip : isPick odd64 ps j = false := by
                    unfold isPick
                    rw [hpj]
                    exact hz
                  clear hpj
                  cases he : ((j : Int) % 2 == 0) with
                  | true =>
                    obtain rfl : g = some xs := by rw [HGE.out, if_neg (by rw [hip]; simp), if_pos (by have := eq_of_beq he; omega)]
                    obtain rfl : xs = x7 := HX7.out.symm
                    have hdd : decide (xs = xs) = true := decide_eq_true rfl
                    clear hip
                    go_wp2_with fail
                    refine (same_bytes HO7.out ((HS0.out.all H7.out.fr)) (by rw [E0.out]; omega)).mono ?_
                    rintro e w8 ⟨rfl, f8⟩
                    have H8 := Lib.hid (H7.out.all f8)
                    clear f8
                    go_wp2_with fail
                    go_roundw
                    case rel => exact ⟨j + 1, by omega, by go_num, H8⟩
                    case measure => simp [intOf]; omega
                  | false =>
                    obtain rfl : g = none := by rw [HGE.out, if_neg (by rw [hip]; simp), if_neg (by have := ne_of_beq_false he; omega)]
                    clear hip
                    go_wp2_with fail
                    go_roundw
                    case rel => exact ⟨j + 1, by omega, by go_num, H7⟩
                    case measure => simp [intOf]; omega
              · have hip : isPick odd64 ps j = false := by
                  unfold isPick
                  rw [List.getElem?_eq_none (by rw [E2.out]; omega)]
                have b2 : decide ((j : Int) < (n2 : Int)) = false := decide_eq_false (by omega)
                cases he : ((j : Int) % 2 == 0) with
                | true =>
                  obtain rfl : g = some xs := by rw [HGE.out, if_neg (by rw [hip]; simp), if_pos (by have := eq_of_beq he; omega)]
                  obtain rfl : xs = x7 := HX7.out.symm
                  have hdd : decide (xs = xs) = true := decide_eq_true rfl
                  clear hip
                  go_wp2_with fail
                  refine (same_bytes HO7.out ((HS0.out.all H7.out.fr)) (by rw [E0.out]; omega)).mono ?_
                  rintro e w8 ⟨rfl, f8⟩
                  have H8 := Lib.hid (H7.out.all f8)
                  clear f8
                  go_wp2_with fail
                  go_roundw
                  case rel => exact ⟨j + 1, by omega, by go_num, H8⟩
                  case measure => simp [intOf]; omega
                | false =>
                  obtain rfl : g = none := by rw [HGE.out, if_neg (by rw [hip]; simp), if_neg (by have := ne_of_beq_false he; omega)]
                  clear hip
                  go_wp2_with fail
                  go_roundw
                  case rel => exact ⟨j + 1, by omega, by go_num, H7⟩
                  case measure => simp [intOf]; omega
            · obtain rfl : j = 16 := by omega
              have hpn := pending_call HH3.out.dk
              rw [HT.out.np] at hpn
              have HP := Lib.hid hpn
              clear hpn
              go_wp2_with fail
              refine HP.out.mono ?_
              rintro e wn ⟨rfl, hwn⟩
              obtain rfl := hwn.symm
              go_wp2_with fail
              go_ret
              exact ⟨rfl, f1.trans HH3.out.fr⟩
end Go.Proofs.YteikddopeplomaaDoor
