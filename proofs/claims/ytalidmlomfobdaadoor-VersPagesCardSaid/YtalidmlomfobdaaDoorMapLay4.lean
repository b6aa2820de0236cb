/- Contracts of the library's, laid at this program. Printed by wip/laygen.py. -/
import Derived.Test.YtalidmlomfobdaaDoorProg
import Derived.KernelRfl
import Derived.Shelf.SlLaysE
namespace Go.Proofs.YtalidmlomfobdaaDoor
open Go.Shelf

def compLRen : Ren := ⟨fun k => if k = 43 then 48 else k, fun k => if k = 22 then 35 else if k = 23 then 2 else k, fun k => k⟩
set_option maxRecDepth 100000 in
theorem compLLays : SlLaysE.n43 Tryd.prog compLRen where
  mixed := by kernel_rfl
  f43 := ⟨Tryd.f48.name, by kernel_rfl, by kernel_rfl⟩
  t0 := by kernel_rfl
  a0 := fun _ => by kernel_rfl
  z0 := fun _ => by kernel_rfl
  v0 := fun _ => by kernel_rfl
  t3 := by kernel_rfl
  a3 := fun _ => by kernel_rfl
  z3 := fun _ => by kernel_rfl
  v3 := fun _ => by kernel_rfl
  t4 := by kernel_rfl
  a4 := fun _ => by kernel_rfl
  z4 := fun _ => by kernel_rfl
  v4 := fun _ => by kernel_rfl
  t22 := by kernel_rfl
  a22 := fun _ => by kernel_rfl
  z22 := fun _ => by kernel_rfl
  v22 := fun _ => by kernel_rfl
  a23 := fun _ => by kernel_rfl
  z23 := fun _ => by kernel_rfl

def compIRen : Ren := ⟨fun k => if k = 43 then 64 else k, fun k => if k = 22 then 52 else if k = 23 then 3 else k, fun k => k⟩
set_option maxRecDepth 100000 in
theorem compILays : SlLaysE.n43 Tryd.prog compIRen where
  mixed := by kernel_rfl
  f43 := ⟨Tryd.f64.name, by kernel_rfl, by kernel_rfl⟩
  t0 := by kernel_rfl
  a0 := fun _ => by kernel_rfl
  z0 := fun _ => by kernel_rfl
  v0 := fun _ => by kernel_rfl
  t3 := by kernel_rfl
  a3 := fun _ => by kernel_rfl
  z3 := fun _ => by kernel_rfl
  v3 := fun _ => by kernel_rfl
  t4 := by kernel_rfl
  a4 := fun _ => by kernel_rfl
  z4 := fun _ => by kernel_rfl
  v4 := fun _ => by kernel_rfl
  t22 := by kernel_rfl
  a22 := fun _ => by kernel_rfl
  z22 := fun _ => by kernel_rfl
  v22 := fun _ => by kernel_rfl
  a23 := fun _ => by kernel_rfl
  z23 := fun _ => by kernel_rfl
end Go.Proofs.YtalidmlomfobdaaDoor
