/- A log that is told records until its disk is full. -/
import Derived.Test.YteclgcnndjcmmaaDoorSFst
import Derived.Test.YteclgcnndjcmmaaDoorNum
namespace Go.Proofs.YteclgcnndjcmmaaDoor
open Go.RowKit Go.Maps

def recF (i : Nat) : Redo := ⟨(i : Int) + 1, i, 0, 0, 0, 1, 0, [], [], false⟩
theorem recF_ok {i : Nat} (h : i < 100) : validIx (recF i) = none := by
  have h1 : ¬ ((i : Int) + 1 < 1) := by omega
  have h2 : ¬ ((i : Int) + 1 > 1099511627776) := by omega
  have h3 : ¬ ((i : Int) < 0) := by omega
  have h4 : ¬ ((i : Int) ≥ (i : Int) + 1) := by omega
  simp [validIx, recF, inB, h1, h2, h3, h4]
theorem redoBytes_none {r : Redo} (h : validIx r = none) (hk : r.key = []) (hv : r.val = []) : (redoBytes r).length ≤ 90 := by
  have h1 := vints_len (redoNums r) (redoNums_small h)
  have h2 : (redoNums r).length = 8 := rfl
  have h3 := vint_len 9 (zig ([] : List UInt8).length) (by omega) (by decide)
  unfold redoBytes bytesOf
  rw [hk, hv]
  simp only [List.length_append, List.length_nil] at *
  omega
theorem call1_ok {r : Redo} (h : validIx r = none) (hk : r.key = []) (hv : r.val = []) : Call1 (call1 r) := by
  have ok : CallOk (call1 r) := ⟨by simp [call1], by simp [call1], by simp [call1], by simp [call1], by simp [call1], by simp [call1], by simp [call1], by simp [call1], by simp [call1], by simp [call1], by simp [call1], fun x hx => by
    obtain rfl : x = r := by simpa [call1] using hx
    exact h⟩
  refine ⟨ok, ?_⟩
  have h1 := vints_len (call1 r).nums ok.nums
  have h2 : (call1 r).nums.length = 8 := rfl
  have h3 : recsBytes (call1 r).recs = redoBytes r := by simp [recsBytes, call1]
  have h4 := redoBytes_none h hk hv
  unfold CallP.bytes
  rw [List.length_append, h3]
  omega
theorem fold_snoc (cs : List CallP) (c : CallP) (s : LSt) : (cs ++ [c]).foldl LSt.does s = (cs.foldl LSt.does s).does c := by simp
theorem FreshC.snoc {cs : List CallP} {c : CallP} {s : LSt} (h : FreshC cs s) (hc : FreshL ((cs.foldl LSt.does s).sets c).hs c.recs) : FreshC (cs ++ [c]) s := by
  intro k x hx
  by_cases hk : k < cs.length
  · rw [List.getElem?_append_left hk] at hx
    rw [List.take_append_of_le_length (by omega)]
    exact h k x hx
  · rw [List.getElem?_append_right (by omega)] at hx
    have h0 : k = cs.length := by
      have := (List.getElem?_eq_some_iff.1 hx).1
      simp at this
      omega
    subst h0
    obtain rfl : c = x := by simpa using hx
    rw [List.take_left']
    · exact hc
    · rfl
/-- What the calls of the first d records leave. -/
structure FullI (cs : List CallP) (s : LSt) (d : Nat) : Prop where
  st : s = cs.foldl LSt.does (.start 0)
  len : cs.length = d
  k0 : ∀ c ∈ cs, c.kind = 0
  fr : FreshC cs (.start 0)
  gr : s.hs.group = 0
  sp : s.hs.spans = []
  ll : s.hs.l.length = d
  lt : ∀ x ∈ s.hs.l, x.lsn ≤ d
theorem FullI.start : FullI [] (.start 0) 0 := ⟨rfl, rfl, by simp, FreshC.nil _, rfl, rfl, rfl, fun x h => by cases h⟩
theorem FullI.isL {cs : List CallP} {s : LSt} {d : Nat} (h : FullI cs s d) {i : Nat} (hi : d ≤ i) : isL s.hs.l (recF i).lsn = false := by
  unfold Go.Proofs.YteclgcnndjcmmaaDoor.isL
  rw [List.any_eq_false]
  intro x hx
  have h1 := h.lt x hx
  have h2 : (recF i).lsn = (i : Int) + 1 := rfl
  rw [h2, beq_iff_eq]
  omega
theorem FullI.n {cs : List CallP} {s : LSt} {d : Nat} (h : FullI cs s d) : s.n = cs.length := by
  rw [h.st, does_n]
  show 0 + _ = _
  omega
theorem FullI.dead {cs : List CallP} {s : LSt} {d : Nat} (h : FullI cs s d) (i : Nat) : deadS s.hs.spans (recF i).lsn (recF i).epoch = false := by rw [h.sp]; rfl
theorem FullI.next {cs : List CallP} {s : LSt} {d : Nat} (h : FullI cs s d) (hd : d < 100) : FullI (cs ++ [call1 (recF d)]) (s.does (call1 (recF d))) (d + 1) := by
  have hx : s.does (call1 (recF d)) = { s with hs := s.hs.add (recF d), n := s.n + 1 } := by rw [does0 rfl]; rfl
  refine ⟨by rw [fold_snoc, ← h.st], by simp [h.len], fun c hc => ?_, h.fr.snoc ?_, ?_, ?_, ?_, ?_⟩
  · rcases List.mem_append.1 hc with hc | hc
    · exact h.k0 c hc
    · obtain rfl : c = call1 (recF d) := by simpa using hc
      rfl
  · rw [← h.st, sets0 rfl]
    exact ⟨⟨recF_ok hd, h.gr.symm, h.dead d, h.isL (Nat.le_refl _), by rw [h.ll]; omega⟩, trivial⟩
  · rw [hx]; exact h.gr
  · rw [hx]; exact h.sp
  · rw [hx]
    show (lins _ _).length = _
    rw [lins_len, h.ll]
  · rw [hx]
    intro x hm
    rcases lins_mem.1 hm with rfl | hm
    · show (d : Int) + 1 ≤ _
      omega
    · have := h.lt x hm
      omega
/-- A row of one record, made new. -/
theorem redo_box (w : World) (i : Nat) : Sl kRedo (From w.heap.size) (w.alloc (.cells #[.int .i64 ((i : Int) + 1), .int .i64 (i : Int), .int .i64 0, .int .i64 0, .int .i64 0, .int .i64 1, .int .i64 0, .slice none 0 0, .slice none 0 0, .bool false] 36)) (.slice (some ⟨w.heap.size, 0, none⟩) 1 1) [recF i] := by
  have h := Own.lay (d := kRedo) (e := 36) (base := w.heap.size) (S := Nowhere) (w := w) (xs := [recF i]) (Reps.single (kRedo_mk (x := recF i) (Sl.nil_ kByte Nowhere w) (Sl.nil_ kByte Nowhere w))) (Nat.le_refl _) (by simp [maxLen])
  exact h.sl_in (fun _ h _ => h.elim) fun _ h _ => h
set_option maxRecDepth 100000 in
set_option maxHeartbeats 4000000 in
theorem slogfull_walk {qs : List Addr} {w : World} (hE : Errs w qs) (a0 a1 : Int) : Calls Tryd.prog 3 #[.int .i64 a0, .int .i64 a1] w fun e w' => e = .returned (.bool true) ∧ Fr All w w' := by
  have HE := Lib.hid hE
  clear hE
  go_enter Tryd.func3, Tryd.ntmps3
  go_wp2_with fail
  refine (first10_call w HE.out).mono ?_
  rintro e w1 ⟨rfl, f1⟩
  have HF1 := Lib.hid f1
  have HE1 := Lib.hid (HE.out.move f1)
  clear f1
  go_wp2_with fail
  refine (number _ (by omega) (by omega)).mono ?_
  rintro e wn ⟨r, hr, rfl, hwn⟩
  obtain rfl := hwn.symm
  have hb4 : IntKind.i64.wrap ((r : Int) + 4) = (r : Int) + 4 := IntWalk.i64_in _ (by omega)
  go_wp2_with fail
  refine (number _ (by omega) (by omega)).mono ?_
  rintro e wn ⟨n, hn, rfl, hwn⟩
  obtain rfl := hwn.symm
  go_wp2_with fail
  refine (held_new w1 (by omega) (by omega)).mono ?_
  rintro e w2 ⟨B, bs, bp, rfl, h2⟩
  have H2 : Hid (Held (fun _ => False) w1 w2 B bs bp (.new ((r : Int) + 4))) := Lib.hid h2
  clear h2
  go_wp2_with fail
  refine (open_call (cs := []) HE1.out H2.out (DOk.new (by omega) (by omega)) (by omega) (by omega) (by simp) (FreshC.nil _)).mono ?_
  rintro e w3 ⟨L, H, lv, sv, rfl, h3, _⟩
  have H3 : Hid (SLg w1 w3 B bs bp L H lv sv (.new ((r : Int) + 4)) (.start 0)) := Lib.hid h3
  have O3 : Hid (DOk (.new ((r : Int) + 4)) []) := Lib.hid (DOk.new (by omega) (by omega))
  have hFN : Hid (Fr All w1 w3) := Lib.hid h3.fr
  clear h3
  go_wp2_with fail
  go_loopw [10, 11, 12] (fun dv fv iv wr => ∃ (i d : Nat) (full : Bool) (cs : List CallP) (s : LSt) (ds : DSt) (lv sv : Value), i ≤ n ∧ dv = .int .i64 d ∧ fv = .bool full ∧ iv = .int .i64 i ∧ Hid (FullI cs s d) ∧ Hid (SLg w1 wr B bs bp L H lv sv ds s) ∧ Hid (DOk ds cs) ∧ Hid (ds.blocks = (r : Int) + 4) ∧ Hid (d ≤ i ∧ (full = false → d = i) ∧ (full = true → (d : Int) = (r : Int) + 4))) (fun _ _ i _ => n - (Go.RowKit.intOf i).toNat)
  case atStart => exact ⟨0, 0, false, [], .start 0, .new ((r : Int) + 4), lv, sv, Nat.zero_le _, rfl, rfl, rfl, Lib.hid FullI.start, H3, O3, Lib.hid rfl, Lib.hid ⟨Nat.le_refl _, fun _ => rfl, fun h => by cases h⟩⟩
  case round =>
    obtain ⟨i, d, full, cs, s, ds, lv4, sv4, hin, rfl, rfl, rfl, HI, HS, HO, HB, HA⟩ := hrel
    by_cases hlt : i < n
    · have hi1 : IntKind.i64.wrap ((i : Int) + 1) = (i : Int) + 1 := IntWalk.i64_in _ (by omega)
      have hi0 : (i : Int) < (n : Int) := by omega
      have FB := (Fr.refl All wr).alloc (.cells #[.int .i64 ((i : Int) + 1), .int .i64 (i : Int), .int .i64 0, .int .i64 0, .int .i64 0, .int .i64 1, .int .i64 0, .slice none 0 0, .slice none 0 0, .bool false] 36)
      have RB := redo_box wr i
      have HS5 := Lib.hid (HS.out.all FB)
      have HRB := Lib.hid RB
      have HT : Hid (∀ b, From wr.heap.size b → b < (wr.alloc (.cells #[.int .i64 ((i : Int) + 1), .int .i64 (i : Int), .int .i64 0, .int .i64 0, .int .i64 0, .int .i64 1, .int .i64 0, .slice none 0 0, .slice none 0 0, .bool false] 36)).heap.size → Off B bs bp b ∧ b ≠ L ∧ b ≠ H ∧ some b ≠ lv4.ownBlock) := Lib.hid fun b (hb : wr.heap.size ≤ b) _ => by
        have hD := HS.out.dk.dk.lt
        have hbs := HS.out.dk.dk.syn.lt
        have hbp := HS.out.dk.dk.pen.lt
        have hL := blk_lt HS.out.lc
        have hH := HS.out.hg.lt
        exact ⟨⟨by omega, by omega, by omega⟩, by omega, by omega, fun e => by have := (own_lt HS.out.hg.row b e.symm).2; omega⟩
      clear FB RB
      have hx := HI.out
      by_cases hroom : (cs.length : Int) < ds.blocks
      · have hfull : full = false := by
          cases full with
          | false => rfl
          | true => exact absurd (HA.out.2.2 rfl) (by have := hx.len; have := HB.out; omega)
        have hdi := HA.out.2.1 hfull
        have hd100 : d < 100 := by omega
        have hd1 : IntKind.i64.wrap ((d : Int) + 1) = (d : Int) + 1 := IntWalk.i64_in _ (by omega)
        have hcall := records_call (HE1.out) HS5.out HO.out hx.n (recF_ok (i := i) (by omega)) hx.gr.symm (hx.dead i) (hx.isL HA.out.1) (by rw [hx.ll]; omega) (call1_ok (recF_ok (i := i) (by omega)) rfl rfl) HRB.out HT.out hroom (by rw [hx.len]; omega)
        have HC := Lib.hid hcall
        have HDI := Lib.hid hdi
        subst hfull
        clear hcall hx hroom hdi
        go_wp2_with fail
        refine HC.out.mono ?_
        rintro e w6 ⟨rfl, ds6, lv6, h6, o6, b6, _, _⟩
        have H6 := Lib.hid h6
        have O6 := Lib.hid o6
        have B6 : Hid (ds6.blocks = (r : Int) + 4) := Lib.hid (b6.trans HB.out)
        clear h6 o6 b6
        go_wp2_with fail
        go_roundw
        case rel =>
          refine ⟨i + 1, d + 1, false, cs ++ [call1 (recF i)], s.does (call1 (recF i)), ds6, lv6, sv4, by omega, by go_num, rfl, by go_num, Lib.hid ?_, H6, O6, B6, Lib.hid ⟨by have := HA.out.1; omega, fun _ => (by have := HDI.out; omega), fun h => (by cases h)⟩⟩
          rw [← HDI.out]
          exact HI.out.next hd100
        case measure => simp [Go.RowKit.intOf]; omega
      · have hdb : (d : Int) = (r : Int) + 4 := by
          have h1 := HO.out.fit
          have := hx.len
          have := HB.out
          omega
        have hcall := records_full (HE1.out) HS5.out HO.out hx.n (recF_ok (i := i) (by omega)) hx.gr.symm (hx.dead i) (hx.isL HA.out.1) (by rw [hx.ll]; omega) (call1_ok (recF_ok (i := i) (by omega)) rfl rfl) HRB.out HT.out (by omega)
        have HC := Lib.hid hcall
        have HDB := Lib.hid hdb
        clear hcall hx hroom hdb
        go_wp2_with fail
        refine HC.out.mono ?_
        rintro e w6 ⟨a, ha, rfl, f6⟩
        have H6 := Lib.hid (HS5.out.all f6)
        have HAa := Lib.hid ha
        clear f6 ha
        unfold errV
        go_wp2_with fail
        refine (see_is (Sees.bare (HE1.out.move H6.out.fr) HAa.out) 109).mono ?_
        rintro e w7 ⟨rfl, f7⟩
        have H7 := Lib.hid (H6.out.all f7)
        clear f7
        go_wp2_with fail
        go_roundw
        case rel =>
          exact ⟨i + 1, d, true, cs, s, ds, lv4, sv4, by omega, rfl, rfl, by go_num, HI, H7, HO, HB, Lib.hid ⟨by have := HA.out.1; omega, (fun h => by cases h), fun _ => HDB.out⟩⟩
        case measure => simp [Go.RowKit.intOf]; omega
    · obtain rfl : i = n := by omega
      clear hlt hin
      have hx := HI.out
      have hst := hx.st
      have hll := hx.ll
      have hsn : s.n = d := by rw [hx.n, hx.len]
      have hdb : (d : Int) ≤ (r : Int) + 4 := by
        have h1 := HO.out.fit
        have := hx.len
        have := HB.out
        omega
      have hop := open_call (g := 0) HE1.out HS.out.dk HO.out (by omega) (by omega) hx.k0 hx.fr
      rw [← hst] at hop
      have HC := Lib.hid hop
      have HLL := Lib.hid hll
      have HSN := Lib.hid hsn
      clear hop hx hst hll hsn
      go_wp2_with fail
      refine HC.out.mono ?_
      rintro e w6 ⟨L6, H6, lv6, sv6, rfl, h6, f6, _⟩
      have G6 := Lib.hid h6
      have S6 := Lib.hid (HS.out.all f6)
      clear h6 f6
      go_wp2_with fail
      refine (shot_call G6.out).mono ?_
      rintro e w7 ⟨lv7, sv7, rfl, h7, _, f7⟩
      have G7 := Lib.hid h7
      have S7 := Lib.hid (S6.out.all f7)
      clear h7 f7
      go_wp2_with fail
      refine (hot_len G7.out).mono ?_
      rintro e wn ⟨rfl, hwn⟩
      obtain rfl := hwn.symm
      rw [HLL.out]
      go_wp2_with fail
      refine (shot_call S7.out).mono ?_
      rintro e w8 ⟨lv8, sv8, rfl, h8, _, f8⟩
      have G8 := Lib.hid h8
      have S8 := Lib.hid (S7.out.all f8)
      clear h8 f8
      go_wp2_with fail
      refine (hot_len G8.out).mono ?_
      rintro e wn ⟨rfl, hwn⟩
      obtain rfl := hwn.symm
      rw [HLL.out]
      go_wp2_with fail
      refine (sblocks_call S8.out).mono ?_
      rintro e wn ⟨rfl, hwn⟩
      obtain rfl := hwn.symm
      rw [HSN.out]
      have hle : decide ((d : Int) ≤ (r : Int) + 4) = true := decide_eq_true hdb
      cases full with
      | true =>
        go_wp2_with fail
        go_ret
        exact ⟨rfl, HF1.out.trans S8.out.fr⟩
      | false =>
        obtain rfl : d = i := HA.out.2.1 rfl
        go_wp2_with fail
        go_ret
        exact ⟨rfl, HF1.out.trans S8.out.fr⟩
end Go.Proofs.YteclgcnndjcmmaaDoor
