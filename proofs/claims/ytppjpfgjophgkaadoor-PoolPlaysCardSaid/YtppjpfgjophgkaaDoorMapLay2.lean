/- Contracts of the library's, laid at this program. Printed by wip/laygen.py. -/
import Derived.Test.YtppjpfgjophgkaaDoorProg
import Derived.KernelRfl
import Derived.Shelf.SlLaysZI
namespace Go.Proofs.YtppjpfgjophgkaaDoor
open Go.Shelf

def keysBRen : Ren := ⟨fun k => if k = 7 then 43 else if k = 10 then 59 else k, fun k => if k = 3 then 4 else if k = 23 then 61 else if k = 26 then 3 else if k = 27 then 80 else if k = 28 then 81 else if k = 33 then 51 else k, fun k => k⟩
set_option maxRecDepth 100000 in
theorem keysBLays : SlLaysZI.n7 Tryd.prog keysBRen where
  mixed := by kernel_rfl
  f7 := ⟨Tryd.f43.name, by kernel_rfl, by kernel_rfl⟩
  f10 := ⟨Tryd.f59.name, by kernel_rfl, by kernel_rfl⟩
  t0 := by kernel_rfl
  a0 := fun _ => by kernel_rfl
  z0 := fun _ => by kernel_rfl
  v0 := fun _ => by kernel_rfl
  t4 := by kernel_rfl
  a4 := fun _ => by kernel_rfl
  z4 := fun _ => by kernel_rfl
  v4 := fun _ => by kernel_rfl
  t23 := by kernel_rfl
  a23 := fun _ => by kernel_rfl
  z23 := fun _ => by kernel_rfl
  v23 := fun _ => by kernel_rfl
  t26 := by kernel_rfl
  a26 := fun _ => by kernel_rfl
  z26 := fun _ => by kernel_rfl
  v26 := fun _ => by kernel_rfl
  t27 := by kernel_rfl
  a27 := fun _ => by kernel_rfl
  z27 := fun _ => by kernel_rfl
  v27 := fun _ => by kernel_rfl
  t28 := by kernel_rfl
  a28 := fun _ => by kernel_rfl
  z28 := fun _ => by kernel_rfl
  v28 := fun _ => by kernel_rfl
  t33 := by kernel_rfl
  a33 := fun _ => by kernel_rfl
  z33 := fun _ => by kernel_rfl
  v33 := fun _ => by kernel_rfl
end Go.Proofs.YtppjpfgjophgkaaDoor
