/- The library's insertion sort, at rows of records: its contract off the shelf lies at this program. -/
import Derived.Test.YtalidmlomfobdaaDoorD
import Derived.Test.YtalidmlomfobdaaDoorProg
import Derived.KernelRfl
import Derived.Shelf.SlSortCmp.InsertionK
namespace Go.Proofs.YtalidmlomfobdaaDoor
open Go.RowKit Go.Shelf Go.Lib Go.Sort

def sortRen : Ren := ⟨fun k => if k = 20 then 137 else k, fun k => if k = 22 then 25 else if k = 24 then 34 else if k = 25 then 148 else k, fun k => k⟩

theorem sortLays : SlLaysF0.n20 Tryd.prog sortRen where
  mixed := by kernel_rfl
  f20 := ⟨Tryd.f137.name, by kernel_rfl, by kernel_rfl⟩
  t0 := by kernel_rfl
  a0 := fun _ => by kernel_rfl
  z0 := fun _ => by kernel_rfl
  v0 := fun _ => by kernel_rfl
  t3 := by kernel_rfl
  a3 := fun _ => by kernel_rfl
  z3 := fun _ => by kernel_rfl
  v3 := fun _ => by kernel_rfl
  t4 := by kernel_rfl
  a4 := fun _ => by kernel_rfl
  z4 := fun _ => by kernel_rfl
  v4 := fun _ => by kernel_rfl
  t22 := by kernel_rfl
  a22 := fun _ => by kernel_rfl
  z22 := fun _ => by kernel_rfl
  v22 := fun _ => by kernel_rfl
  t25 := by kernel_rfl
  a25 := fun _ => by kernel_rfl
  z25 := fun _ => by kernel_rfl
  v25 := fun _ => by kernel_rfl
end Go.Proofs.YtalidmlomfobdaaDoor
