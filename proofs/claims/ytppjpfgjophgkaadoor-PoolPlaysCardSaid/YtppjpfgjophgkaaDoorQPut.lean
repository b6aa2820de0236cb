/- pool.Put of a page that is not right. -/
import Derived.Test.YtppjpfgjophgkaaDoorPk
import Derived.Test.YtppjpfgjophgkaaDoorPkP
import Derived.Test.YtppjpfgjophgkaaDoorPVal
namespace Go.Proofs.YtppjpfgjophgkaaDoor
open Go.RowKit Go.Maps

theorem PageOk.of_ix {p : Page} (h : pageIx p = none) : PageOk p := by
  obtain ⟨h1, h2, h3⟩ := pageIx_none h
  exact ⟨by omega, by omega, by omega, by omega, by omega, by omega, by omega, by omega, h2, h3⟩
theorem PageOk.ix {p : Page} (h : PageOk p) : pageIx p = none := pageIx_ok ⟨h.i0, h.i1, h.l0, h.l1, h.v0, h.v1, h.x0, h.x1⟩ h.en h.es
theorem pageIx_lt {p : Page} {k : Nat} (h : pageIx p = some k) : k < 17 := by
  unfold pageIx at h
  split at h
  · obtain rfl := Option.some.inj h; decide
  split at h
  · obtain rfl := Option.some.inj h; decide
  split at h
  · obtain rfl := Option.some.inj h; decide
  · cases h
theorem pool_put_bad {qs : List Addr} {G : Nat → Prop} {w : World} {B l t : Nat} {s : PSt} {p : Page} {A : Option Addr} {n c k : Nat} {S : Nat → Prop} (he : Errs w qs) (h : Pk G w B l t s) (hix : pageIx p = some k) (hs : Sl kEnt S w (.slice A n c) p.ents) :
    Calls Tryd.prog 12 #[.pointer (some ⟨B, 0, none⟩), .agg #[.int .i64 p.id, .int .i64 p.lsn, .int .i64 p.level, .int .i64 p.next, .slice A n c]] w
      fun e w' => e = .returned (errAt qs (some k)) ∧ Fr All w w' := by
  have B0 := heap_alloc_new w (.cells #[.int .i64 p.id, .int .i64 p.lsn, .int .i64 p.level, .int .i64 p.next, .slice A n c] 30)
  have F0 := (Fr.refl All w).alloc (.cells #[.int .i64 p.id, .int .i64 p.lsn, .int .i64 p.level, .int .i64 p.next, .slice A n c] 30)
  obtain ⟨p0, p1, p2, p3, p4, pz⟩ := blk5 B0
  have hv := page_valid_ix (p := p) (he.move F0) (hs.all F0)
  have hk := pageIx_lt hix
  have hq : k < qs.length := by have := he.len; omega
  rw [hix, errAt_is (List.getElem?_eq_getElem hq)] at hv
  rw [errAt_is (List.getElem?_eq_getElem hq)]
  unfold errV at hv ⊢
  have HV := Lib.hid hv
  clear hv he h hs B0 hix
  go_enter Tryd.func12, Tryd.ntmps12
  go_wp2_with fail
  refine HV.out.mono ?_
  rintro e w2 ⟨rfl, f2⟩
  go_wp2_with fail
  go_ret
  exact ⟨rfl, F0.trans f2⟩
end Go.Proofs.YtppjpfgjophgkaaDoor
