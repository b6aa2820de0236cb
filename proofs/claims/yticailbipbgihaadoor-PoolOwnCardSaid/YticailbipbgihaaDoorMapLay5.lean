/- Contracts of the library's, laid at this program. Printed by wip/laygen.py. -/
import Derived.Test.YticailbipbgihaaDoorProg
import Derived.KernelRfl
import Derived.Shelf.SlLaysZI
import Derived.Shelf.SlLaysM
namespace Go.Proofs.YticailbipbgihaaDoor
open Go.Shelf

def sortedIRen : Ren := ⟨fun k => if k = 6 then 19 else if k = 8 then 25 else if k = 9 then 26 else if k = 11 then 30 else if k = 12 then 31 else if k = 13 then 32 else if k = 14 then 33 else if k = 15 then 34 else if k = 16 then 35 else if k = 17 then 36 else if k = 18 then 37 else if k = 19 then 38 else if k = 20 then 39 else if k = 21 then 40 else if k = 22 then 41 else if k = 23 then 42 else if k = 24 then 43 else if k = 25 then 44 else if k = 26 then 45 else if k = 27 then 46 else if k = 28 then 47 else if k = 29 then 48 else if k = 30 then 49 else if k = 31 then 50 else k, fun k => if k = 24 then 41 else if k = 26 then 3 else if k = 28 then 52 else if k = 33 then 43 else if k = 37 then 63 else if k = 39 then 65 else if k = 40 then 66 else if k = 45 then 70 else if k = 48 then 73 else if k = 50 then 75 else if k = 51 then 76 else if k = 55 then 80 else if k = 57 then 82 else if k = 58 then 83 else k, fun k => k⟩
set_option maxRecDepth 100000 in
theorem sortedILays : SlLaysZI.n6 Tryd.prog sortedIRen where
  mixed := by kernel_rfl
  f6 := ⟨Tryd.f19.name, by kernel_rfl, by kernel_rfl⟩
  f8 := ⟨Tryd.f25.name, by kernel_rfl, by kernel_rfl⟩
  f11 := ⟨Tryd.f30.name, by kernel_rfl, by kernel_rfl⟩
  t0 := by kernel_rfl
  a0 := fun _ => by kernel_rfl
  z0 := fun _ => by kernel_rfl
  v0 := fun _ => by kernel_rfl
  t24 := by kernel_rfl
  a24 := fun _ => by kernel_rfl
  z24 := fun _ => by kernel_rfl
  v24 := fun _ => by kernel_rfl
  t26 := by kernel_rfl
  a26 := fun _ => by kernel_rfl
  z26 := fun _ => by kernel_rfl
  v26 := fun _ => by kernel_rfl
  t28 := by kernel_rfl
  a28 := fun _ => by kernel_rfl
  z28 := fun _ => by kernel_rfl
  v28 := fun _ => by kernel_rfl
  i26 := by kernel_rfl

def sortIRen : Ren := ⟨fun k => if k = 5 then 26 else if k = 7 then 31 else if k = 8 then 32 else if k = 10 then 33 else if k = 11 then 34 else if k = 12 then 35 else if k = 13 then 36 else if k = 14 then 37 else if k = 15 then 38 else if k = 16 then 39 else if k = 17 then 40 else if k = 18 then 41 else if k = 19 then 42 else if k = 20 then 43 else if k = 30 then 44 else if k = 31 then 45 else if k = 32 then 46 else if k = 33 then 47 else if k = 34 then 48 else if k = 35 then 49 else if k = 40 then 50 else k, fun k => if k = 22 then 41 else if k = 23 then 41 else if k = 25 then 3 else if k = 32 then 63 else if k = 35 then 65 else if k = 36 then 66 else if k = 41 then 70 else if k = 44 then 73 else if k = 46 then 75 else if k = 53 then 76 else if k = 57 then 80 else if k = 63 then 82 else if k = 64 then 83 else k, fun k => k⟩
set_option maxRecDepth 100000 in
theorem sortILays : SlLaysM.n5 Tryd.prog sortIRen where
  mixed := by kernel_rfl
  f5 := ⟨Tryd.f26.name, by kernel_rfl, by kernel_rfl⟩
  f7 := ⟨Tryd.f31.name, by kernel_rfl, by kernel_rfl⟩
  f8 := by kernel_rfl
  f10 := ⟨Tryd.f33.name, by kernel_rfl, by kernel_rfl⟩
  f11 := ⟨Tryd.f34.name, by kernel_rfl, by kernel_rfl⟩
  f12 := ⟨Tryd.f35.name, by kernel_rfl, by kernel_rfl⟩
  f13 := ⟨Tryd.f36.name, by kernel_rfl, by kernel_rfl⟩
  f14 := ⟨Tryd.f37.name, by kernel_rfl, by kernel_rfl⟩
  f15 := ⟨Tryd.f38.name, by kernel_rfl, by kernel_rfl⟩
  f16 := ⟨Tryd.f39.name, by kernel_rfl, by kernel_rfl⟩
  f17 := ⟨Tryd.f40.name, by kernel_rfl, by kernel_rfl⟩
  f18 := ⟨Tryd.f41.name, by kernel_rfl, by kernel_rfl⟩
  f19 := by kernel_rfl
  f20 := by kernel_rfl
  f30 := ⟨Tryd.f44.name, by kernel_rfl, by kernel_rfl⟩
  f31 := by kernel_rfl
  f32 := by kernel_rfl
  f33 := ⟨Tryd.f47.name, by kernel_rfl, by kernel_rfl⟩
  f34 := ⟨Tryd.f48.name, by kernel_rfl, by kernel_rfl⟩
  f35 := ⟨Tryd.f49.name, by kernel_rfl, by kernel_rfl⟩
  f40 := ⟨Tryd.f50.name, by kernel_rfl, by kernel_rfl⟩
  t0 := by kernel_rfl
  a0 := fun _ => by kernel_rfl
  z0 := fun _ => by kernel_rfl
  v0 := fun _ => by kernel_rfl
  t3 := by kernel_rfl
  a3 := fun _ => by kernel_rfl
  z3 := fun _ => by kernel_rfl
  v3 := fun _ => by kernel_rfl
  t4 := by kernel_rfl
  a4 := fun _ => by kernel_rfl
  z4 := fun _ => by kernel_rfl
  v4 := fun _ => by kernel_rfl
  t5 := by kernel_rfl
  a5 := fun _ => by kernel_rfl
  z5 := fun _ => by kernel_rfl
  v5 := fun _ => by kernel_rfl
  t9 := by kernel_rfl
  a9 := fun _ => by kernel_rfl
  z9 := fun _ => by kernel_rfl
  v9 := fun _ => by kernel_rfl
  t22 := by kernel_rfl
  a22 := fun _ => by kernel_rfl
  z22 := fun _ => by kernel_rfl
  v22 := fun _ => by kernel_rfl
  t23 := by kernel_rfl
  a23 := fun _ => by kernel_rfl
  z23 := fun _ => by kernel_rfl
  v23 := fun _ => by kernel_rfl
  t25 := by kernel_rfl
  a25 := fun _ => by kernel_rfl
  z25 := fun _ => by kernel_rfl
  v25 := fun _ => by kernel_rfl
  t32 := by kernel_rfl
  a32 := fun _ => by kernel_rfl
  z32 := fun _ => by kernel_rfl
  v32 := fun _ => by kernel_rfl
  t35 := by kernel_rfl
  a35 := fun _ => by kernel_rfl
  z35 := fun _ => by kernel_rfl
  v35 := fun _ => by kernel_rfl
  t36 := by kernel_rfl
  a36 := fun _ => by kernel_rfl
  z36 := fun _ => by kernel_rfl
  v36 := fun _ => by kernel_rfl
  t41 := by kernel_rfl
  a41 := fun _ => by kernel_rfl
  z41 := fun _ => by kernel_rfl
  v41 := fun _ => by kernel_rfl
  t44 := by kernel_rfl
  a44 := fun _ => by kernel_rfl
  z44 := fun _ => by kernel_rfl
  v44 := fun _ => by kernel_rfl
  t46 := by kernel_rfl
  a46 := fun _ => by kernel_rfl
  z46 := fun _ => by kernel_rfl
  v46 := fun _ => by kernel_rfl
  t53 := by kernel_rfl
  a53 := fun _ => by kernel_rfl
  z53 := fun _ => by kernel_rfl
  v53 := fun _ => by kernel_rfl
  t57 := by kernel_rfl
  a57 := fun _ => by kernel_rfl
  z57 := fun _ => by kernel_rfl
  v57 := fun _ => by kernel_rfl
  t63 := by kernel_rfl
  a63 := fun _ => by kernel_rfl
  z63 := fun _ => by kernel_rfl
  v63 := fun _ => by kernel_rfl
  t64 := by kernel_rfl
  a64 := fun _ => by kernel_rfl
  z64 := fun _ => by kernel_rfl
  v64 := fun _ => by kernel_rfl
end Go.Proofs.YticailbipbgihaaDoor
