/- Contracts of the library's, laid at this program. Printed by wip/laygen.py. -/
import Derived.Test.YtppjpfgjophgkaaDoorProg
import Derived.KernelRfl
import Derived.Shelf.SlLaysZI
import Derived.Shelf.SlLaysM
namespace Go.Proofs.YtppjpfgjophgkaaDoor
open Go.Shelf

def sortedIRen : Ren := ⟨fun k => if k = 6 then 42 else if k = 8 then 57 else if k = 9 then 58 else if k = 11 then 66 else if k = 12 then 67 else if k = 13 then 68 else if k = 14 then 72 else if k = 15 then 73 else if k = 16 then 74 else if k = 17 then 75 else if k = 18 then 76 else if k = 19 then 77 else if k = 20 then 78 else if k = 21 then 79 else if k = 22 then 80 else if k = 23 then 81 else if k = 24 then 82 else if k = 25 then 84 else if k = 26 then 85 else if k = 27 then 86 else if k = 28 then 87 else if k = 29 then 88 else if k = 30 then 89 else if k = 31 then 90 else k, fun k => if k = 24 then 27 else if k = 26 then 3 else if k = 28 then 81 else if k = 33 then 51 else if k = 37 then 104 else if k = 39 then 109 else if k = 40 then 110 else if k = 45 then 114 else if k = 48 then 117 else if k = 50 then 119 else if k = 51 then 121 else if k = 55 then 125 else if k = 57 then 127 else if k = 58 then 128 else k, fun k => k⟩
set_option maxRecDepth 100000 in
theorem sortedILays : SlLaysZI.n6 Tryd.prog sortedIRen where
  mixed := by kernel_rfl
  f6 := ⟨Tryd.f42.name, by kernel_rfl, by kernel_rfl⟩
  f8 := ⟨Tryd.f57.name, by kernel_rfl, by kernel_rfl⟩
  f11 := ⟨Tryd.f66.name, by kernel_rfl, by kernel_rfl⟩
  t0 := by kernel_rfl
  a0 := fun _ => by kernel_rfl
  z0 := fun _ => by kernel_rfl
  v0 := fun _ => by kernel_rfl
  t24 := by kernel_rfl
  a24 := fun _ => by kernel_rfl
  z24 := fun _ => by kernel_rfl
  v24 := fun _ => by kernel_rfl
  t26 := by kernel_rfl
  a26 := fun _ => by kernel_rfl
  z26 := fun _ => by kernel_rfl
  v26 := fun _ => by kernel_rfl
  t28 := by kernel_rfl
  a28 := fun _ => by kernel_rfl
  z28 := fun _ => by kernel_rfl
  v28 := fun _ => by kernel_rfl
  i26 := by kernel_rfl

def sortIRen : Ren := ⟨fun k => if k = 5 then 58 else if k = 7 then 67 else if k = 8 then 68 else if k = 10 then 72 else if k = 11 then 73 else if k = 12 then 74 else if k = 13 then 75 else if k = 14 then 76 else if k = 15 then 77 else if k = 16 then 78 else if k = 17 then 79 else if k = 18 then 80 else if k = 19 then 81 else if k = 20 then 82 else if k = 30 then 84 else if k = 31 then 85 else if k = 32 then 86 else if k = 33 then 87 else if k = 34 then 88 else if k = 35 then 89 else if k = 40 then 90 else k, fun k => if k = 22 then 27 else if k = 23 then 27 else if k = 25 then 3 else if k = 32 then 104 else if k = 35 then 109 else if k = 36 then 110 else if k = 41 then 114 else if k = 44 then 117 else if k = 46 then 119 else if k = 53 then 121 else if k = 57 then 125 else if k = 63 then 127 else if k = 64 then 128 else k, fun k => k⟩
set_option maxRecDepth 100000 in
theorem sortILays : SlLaysM.n5 Tryd.prog sortIRen where
  mixed := by kernel_rfl
  f5 := ⟨Tryd.f58.name, by kernel_rfl, by kernel_rfl⟩
  f7 := ⟨Tryd.f67.name, by kernel_rfl, by kernel_rfl⟩
  f8 := by kernel_rfl
  f10 := ⟨Tryd.f72.name, by kernel_rfl, by kernel_rfl⟩
  f11 := ⟨Tryd.f73.name, by kernel_rfl, by kernel_rfl⟩
  f12 := ⟨Tryd.f74.name, by kernel_rfl, by kernel_rfl⟩
  f13 := ⟨Tryd.f75.name, by kernel_rfl, by kernel_rfl⟩
  f14 := ⟨Tryd.f76.name, by kernel_rfl, by kernel_rfl⟩
  f15 := ⟨Tryd.f77.name, by kernel_rfl, by kernel_rfl⟩
  f16 := ⟨Tryd.f78.name, by kernel_rfl, by kernel_rfl⟩
  f17 := ⟨Tryd.f79.name, by kernel_rfl, by kernel_rfl⟩
  f18 := ⟨Tryd.f80.name, by kernel_rfl, by kernel_rfl⟩
  f19 := by kernel_rfl
  f20 := by kernel_rfl
  f30 := ⟨Tryd.f84.name, by kernel_rfl, by kernel_rfl⟩
  f31 := by kernel_rfl
  f32 := by kernel_rfl
  f33 := ⟨Tryd.f87.name, by kernel_rfl, by kernel_rfl⟩
  f34 := ⟨Tryd.f88.name, by kernel_rfl, by kernel_rfl⟩
  f35 := ⟨Tryd.f89.name, by kernel_rfl, by kernel_rfl⟩
  f40 := ⟨Tryd.f90.name, by kernel_rfl, by kernel_rfl⟩
  t0 := by kernel_rfl
  a0 := fun _ => by kernel_rfl
  z0 := fun _ => by kernel_rfl
  v0 := fun _ => by kernel_rfl
  t3 := by kernel_rfl
  a3 := fun _ => by kernel_rfl
  z3 := fun _ => by kernel_rfl
  v3 := fun _ => by kernel_rfl
  t4 := by kernel_rfl
  a4 := fun _ => by kernel_rfl
  z4 := fun _ => by kernel_rfl
  v4 := fun _ => by kernel_rfl
  t5 := by kernel_rfl
  a5 := fun _ => by kernel_rfl
  z5 := fun _ => by kernel_rfl
  v5 := fun _ => by kernel_rfl
  t9 := by kernel_rfl
  a9 := fun _ => by kernel_rfl
  z9 := fun _ => by kernel_rfl
  v9 := fun _ => by kernel_rfl
  t22 := by kernel_rfl
  a22 := fun _ => by kernel_rfl
  z22 := fun _ => by kernel_rfl
  v22 := fun _ => by kernel_rfl
  t23 := by kernel_rfl
  a23 := fun _ => by kernel_rfl
  z23 := fun _ => by kernel_rfl
  v23 := fun _ => by kernel_rfl
  t25 := by kernel_rfl
  a25 := fun _ => by kernel_rfl
  z25 := fun _ => by kernel_rfl
  v25 := fun _ => by kernel_rfl
  t32 := by kernel_rfl
  a32 := fun _ => by kernel_rfl
  z32 := fun _ => by kernel_rfl
  v32 := fun _ => by kernel_rfl
  t35 := by kernel_rfl
  a35 := fun _ => by kernel_rfl
  z35 := fun _ => by kernel_rfl
  v35 := fun _ => by kernel_rfl
  t36 := by kernel_rfl
  a36 := fun _ => by kernel_rfl
  z36 := fun _ => by kernel_rfl
  v36 := fun _ => by kernel_rfl
  t41 := by kernel_rfl
  a41 := fun _ => by kernel_rfl
  z41 := fun _ => by kernel_rfl
  v41 := fun _ => by kernel_rfl
  t44 := by kernel_rfl
  a44 := fun _ => by kernel_rfl
  z44 := fun _ => by kernel_rfl
  v44 := fun _ => by kernel_rfl
  t46 := by kernel_rfl
  a46 := fun _ => by kernel_rfl
  z46 := fun _ => by kernel_rfl
  v46 := fun _ => by kernel_rfl
  t53 := by kernel_rfl
  a53 := fun _ => by kernel_rfl
  z53 := fun _ => by kernel_rfl
  v53 := fun _ => by kernel_rfl
  t57 := by kernel_rfl
  a57 := fun _ => by kernel_rfl
  z57 := fun _ => by kernel_rfl
  v57 := fun _ => by kernel_rfl
  t63 := by kernel_rfl
  a63 := fun _ => by kernel_rfl
  z63 := fun _ => by kernel_rfl
  v63 := fun _ => by kernel_rfl
  t64 := by kernel_rfl
  a64 := fun _ => by kernel_rfl
  z64 := fun _ => by kernel_rfl
  v64 := fun _ => by kernel_rfl
end Go.Proofs.YtppjpfgjophgkaaDoor
