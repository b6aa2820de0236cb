/- Contracts of the library's, laid at this program. Printed by wip/laygen.py. -/
import Derived.Test.YteclgcnndjcmmaaDoorProg
import Derived.KernelRfl
import Derived.Shelf.SlLaysX
import Derived.Shelf.SlLaysW
import Derived.Shelf.SlLaysZI
import Derived.Shelf.SlLaysM
namespace Go.Proofs.YteclgcnndjcmmaaDoor
open Go.Shelf

def copyMRen : Ren := ⟨fun k => if k = 5 then 71 else k, fun k => if k = 23 then 57 else if k = 24 then 57 else if k = 26 then 3 else if k = 27 then 34 else k, fun k => k⟩
set_option maxRecDepth 100000 in
theorem copyMLays : SlLaysX.n5 Tryd.prog copyMRen where
  mixed := by kernel_rfl
  f5 := ⟨Tryd.f71.name, by kernel_rfl, by kernel_rfl⟩
  t0 := by kernel_rfl
  a0 := fun _ => by kernel_rfl
  z0 := fun _ => by kernel_rfl
  v0 := fun _ => by kernel_rfl
  t4 := by kernel_rfl
  a4 := fun _ => by kernel_rfl
  z4 := fun _ => by kernel_rfl
  v4 := fun _ => by kernel_rfl
  t23 := by kernel_rfl
  a23 := fun _ => by kernel_rfl
  z23 := fun _ => by kernel_rfl
  v23 := fun _ => by kernel_rfl
  t24 := by kernel_rfl
  a24 := fun _ => by kernel_rfl
  z24 := fun _ => by kernel_rfl
  v24 := fun _ => by kernel_rfl
  a26 := fun _ => by kernel_rfl
  z26 := fun _ => by kernel_rfl
  a27 := fun _ => by kernel_rfl
  z27 := fun _ => by kernel_rfl

end Go.Proofs.YteclgcnndjcmmaaDoor
