/- Contracts of the library's, laid at this program. Printed by wip/laygen.py. -/
import Derived.Test.YtppjpfgjophgkaaDoorProg
import Derived.KernelRfl
import Derived.Shelf.SlLaysW
namespace Go.Proofs.YtppjpfgjophgkaaDoor
open Go.Shelf

def cloneBRen : Ren := ⟨fun k => if k = 5 then 29 else if k = 7 then 49 else k, fun k => if k = 3 then 4 else if k = 23 then 61 else if k = 25 then 3 else k, fun k => k⟩
set_option maxRecDepth 100000 in
theorem cloneBLays : SlLaysW.n5 Tryd.prog cloneBRen where
  mixed := by kernel_rfl
  f5 := ⟨Tryd.f29.name, by kernel_rfl, by kernel_rfl⟩
  f7 := by kernel_rfl
  t4 := by kernel_rfl
  a4 := fun _ => by kernel_rfl
  z4 := fun _ => by kernel_rfl
  v4 := fun _ => by kernel_rfl
  t20 := by kernel_rfl
  a20 := fun _ => by kernel_rfl
  z20 := fun _ => by kernel_rfl
  v20 := fun _ => by kernel_rfl
  t23 := by kernel_rfl
  a23 := fun _ => by kernel_rfl
  z23 := fun _ => by kernel_rfl
  v23 := fun _ => by kernel_rfl
end Go.Proofs.YtppjpfgjophgkaaDoor
