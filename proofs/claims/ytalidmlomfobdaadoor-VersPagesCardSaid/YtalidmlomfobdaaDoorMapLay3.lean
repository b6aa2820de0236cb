/- Contracts of the library's, laid at this program. Printed by wip/laygen.py. -/
import Derived.Test.YtalidmlomfobdaaDoorProg
import Derived.KernelRfl
import Derived.Shelf.SlLaysM
namespace Go.Proofs.YtalidmlomfobdaaDoor
open Go.Shelf

def sortLRen : Ren := ⟨fun k => if k = 5 then 47 else if k = 7 then 77 else if k = 8 then 78 else if k = 10 then 90 else if k = 11 then 91 else if k = 12 then 92 else if k = 13 then 93 else if k = 14 then 94 else if k = 15 then 95 else if k = 16 then 96 else if k = 17 then 97 else if k = 18 then 98 else if k = 19 then 99 else if k = 20 then 100 else if k = 30 then 121 else if k = 31 then 122 else if k = 32 then 123 else if k = 33 then 124 else if k = 34 then 125 else if k = 35 then 126 else if k = 40 then 136 else k, fun k => if k = 22 then 35 else if k = 23 then 35 else if k = 25 then 2 else if k = 32 then 27 else if k = 35 then 130 else if k = 36 then 131 else if k = 41 then 82 else if k = 44 then 138 else if k = 46 then 140 else if k = 53 then 157 else if k = 57 then 161 else if k = 63 then 172 else if k = 64 then 173 else k, fun k => k⟩
set_option maxRecDepth 100000 in
theorem sortLLays : SlLaysM.n5 Tryd.prog sortLRen where
  mixed := by kernel_rfl
  f5 := ⟨Tryd.f47.name, by kernel_rfl, by kernel_rfl⟩
  f7 := ⟨Tryd.f77.name, by kernel_rfl, by kernel_rfl⟩
  f8 := by kernel_rfl
  f10 := ⟨Tryd.f90.name, by kernel_rfl, by kernel_rfl⟩
  f11 := ⟨Tryd.f91.name, by kernel_rfl, by kernel_rfl⟩
  f12 := ⟨Tryd.f92.name, by kernel_rfl, by kernel_rfl⟩
  f13 := ⟨Tryd.f93.name, by kernel_rfl, by kernel_rfl⟩
  f14 := ⟨Tryd.f94.name, by kernel_rfl, by kernel_rfl⟩
  f15 := ⟨Tryd.f95.name, by kernel_rfl, by kernel_rfl⟩
  f16 := ⟨Tryd.f96.name, by kernel_rfl, by kernel_rfl⟩
  f17 := ⟨Tryd.f97.name, by kernel_rfl, by kernel_rfl⟩
  f18 := ⟨Tryd.f98.name, by kernel_rfl, by kernel_rfl⟩
  f19 := by kernel_rfl
  f20 := by kernel_rfl
  f30 := ⟨Tryd.f121.name, by kernel_rfl, by kernel_rfl⟩
  f31 := by kernel_rfl
  f32 := by kernel_rfl
  f33 := ⟨Tryd.f124.name, by kernel_rfl, by kernel_rfl⟩
  f34 := ⟨Tryd.f125.name, by kernel_rfl, by kernel_rfl⟩
  f35 := ⟨Tryd.f126.name, by kernel_rfl, by kernel_rfl⟩
  f40 := ⟨Tryd.f136.name, by kernel_rfl, by kernel_rfl⟩
  t0 := by kernel_rfl
  a0 := fun _ => by kernel_rfl
  z0 := fun _ => by kernel_rfl
  v0 := fun _ => by kernel_rfl
  t3 := by kernel_rfl
  a3 := fun _ => by kernel_rfl
  z3 := fun _ => by kernel_rfl
  v3 := fun _ => by kernel_rfl
  t4 := by kernel_rfl
  a4 := fun _ => by kernel_rfl
  z4 := fun _ => by kernel_rfl
  v4 := fun _ => by kernel_rfl
  t5 := by kernel_rfl
  a5 := fun _ => by kernel_rfl
  z5 := fun _ => by kernel_rfl
  v5 := fun _ => by kernel_rfl
  t9 := by kernel_rfl
  a9 := fun _ => by kernel_rfl
  z9 := fun _ => by kernel_rfl
  v9 := fun _ => by kernel_rfl
  t22 := by kernel_rfl
  a22 := fun _ => by kernel_rfl
  z22 := fun _ => by kernel_rfl
  v22 := fun _ => by kernel_rfl
  t23 := by kernel_rfl
  a23 := fun _ => by kernel_rfl
  z23 := fun _ => by kernel_rfl
  v23 := fun _ => by kernel_rfl
  t25 := by kernel_rfl
  a25 := fun _ => by kernel_rfl
  z25 := fun _ => by kernel_rfl
  v25 := fun _ => by kernel_rfl
  t32 := by kernel_rfl
  a32 := fun _ => by kernel_rfl
  z32 := fun _ => by kernel_rfl
  v32 := fun _ => by kernel_rfl
  t35 := by kernel_rfl
  a35 := fun _ => by kernel_rfl
  z35 := fun _ => by kernel_rfl
  v35 := fun _ => by kernel_rfl
  t36 := by kernel_rfl
  a36 := fun _ => by kernel_rfl
  z36 := fun _ => by kernel_rfl
  v36 := fun _ => by kernel_rfl
  t41 := by kernel_rfl
  a41 := fun _ => by kernel_rfl
  z41 := fun _ => by kernel_rfl
  v41 := fun _ => by kernel_rfl
  t44 := by kernel_rfl
  a44 := fun _ => by kernel_rfl
  z44 := fun _ => by kernel_rfl
  v44 := fun _ => by kernel_rfl
  t46 := by kernel_rfl
  a46 := fun _ => by kernel_rfl
  z46 := fun _ => by kernel_rfl
  v46 := fun _ => by kernel_rfl
  t53 := by kernel_rfl
  a53 := fun _ => by kernel_rfl
  z53 := fun _ => by kernel_rfl
  v53 := fun _ => by kernel_rfl
  t57 := by kernel_rfl
  a57 := fun _ => by kernel_rfl
  z57 := fun _ => by kernel_rfl
  v57 := fun _ => by kernel_rfl
  t63 := by kernel_rfl
  a63 := fun _ => by kernel_rfl
  z63 := fun _ => by kernel_rfl
  v63 := fun _ => by kernel_rfl
  t64 := by kernel_rfl
  a64 := fun _ => by kernel_rfl
  z64 := fun _ => by kernel_rfl
  v64 := fun _ => by kernel_rfl

def sortIRen : Ren := ⟨fun k => if k = 5 then 63 else if k = 7 then 86 else if k = 8 then 78 else if k = 10 then 111 else if k = 11 then 112 else if k = 12 then 113 else if k = 13 then 114 else if k = 14 then 115 else if k = 15 then 116 else if k = 16 then 117 else if k = 17 then 118 else if k = 18 then 119 else if k = 19 then 99 else if k = 20 then 100 else if k = 30 then 133 else if k = 31 then 122 else if k = 32 then 123 else if k = 33 then 134 else if k = 34 then 135 else if k = 35 then 130 else if k = 40 then 140 else k, fun k => if k = 22 then 52 else if k = 23 then 52 else if k = 25 then 3 else if k = 32 then 27 else if k = 35 then 130 else if k = 36 then 131 else if k = 41 then 82 else if k = 44 then 138 else if k = 46 then 140 else if k = 53 then 157 else if k = 57 then 161 else if k = 63 then 172 else if k = 64 then 173 else k, fun k => k⟩
set_option maxRecDepth 100000 in
theorem sortILays : SlLaysM.n5 Tryd.prog sortIRen where
  mixed := by kernel_rfl
  f5 := ⟨Tryd.f63.name, by kernel_rfl, by kernel_rfl⟩
  f7 := ⟨Tryd.f86.name, by kernel_rfl, by kernel_rfl⟩
  f8 := by kernel_rfl
  f10 := ⟨Tryd.f111.name, by kernel_rfl, by kernel_rfl⟩
  f11 := ⟨Tryd.f112.name, by kernel_rfl, by kernel_rfl⟩
  f12 := ⟨Tryd.f113.name, by kernel_rfl, by kernel_rfl⟩
  f13 := ⟨Tryd.f114.name, by kernel_rfl, by kernel_rfl⟩
  f14 := ⟨Tryd.f115.name, by kernel_rfl, by kernel_rfl⟩
  f15 := ⟨Tryd.f116.name, by kernel_rfl, by kernel_rfl⟩
  f16 := ⟨Tryd.f117.name, by kernel_rfl, by kernel_rfl⟩
  f17 := ⟨Tryd.f118.name, by kernel_rfl, by kernel_rfl⟩
  f18 := ⟨Tryd.f119.name, by kernel_rfl, by kernel_rfl⟩
  f19 := by kernel_rfl
  f20 := by kernel_rfl
  f30 := ⟨Tryd.f133.name, by kernel_rfl, by kernel_rfl⟩
  f31 := by kernel_rfl
  f32 := by kernel_rfl
  f33 := ⟨Tryd.f134.name, by kernel_rfl, by kernel_rfl⟩
  f34 := ⟨Tryd.f135.name, by kernel_rfl, by kernel_rfl⟩
  f35 := ⟨Tryd.f130.name, by kernel_rfl, by kernel_rfl⟩
  f40 := ⟨Tryd.f140.name, by kernel_rfl, by kernel_rfl⟩
  t0 := by kernel_rfl
  a0 := fun _ => by kernel_rfl
  z0 := fun _ => by kernel_rfl
  v0 := fun _ => by kernel_rfl
  t3 := by kernel_rfl
  a3 := fun _ => by kernel_rfl
  z3 := fun _ => by kernel_rfl
  v3 := fun _ => by kernel_rfl
  t4 := by kernel_rfl
  a4 := fun _ => by kernel_rfl
  z4 := fun _ => by kernel_rfl
  v4 := fun _ => by kernel_rfl
  t5 := by kernel_rfl
  a5 := fun _ => by kernel_rfl
  z5 := fun _ => by kernel_rfl
  v5 := fun _ => by kernel_rfl
  t9 := by kernel_rfl
  a9 := fun _ => by kernel_rfl
  z9 := fun _ => by kernel_rfl
  v9 := fun _ => by kernel_rfl
  t22 := by kernel_rfl
  a22 := fun _ => by kernel_rfl
  z22 := fun _ => by kernel_rfl
  v22 := fun _ => by kernel_rfl
  t23 := by kernel_rfl
  a23 := fun _ => by kernel_rfl
  z23 := fun _ => by kernel_rfl
  v23 := fun _ => by kernel_rfl
  t25 := by kernel_rfl
  a25 := fun _ => by kernel_rfl
  z25 := fun _ => by kernel_rfl
  v25 := fun _ => by kernel_rfl
  t32 := by kernel_rfl
  a32 := fun _ => by kernel_rfl
  z32 := fun _ => by kernel_rfl
  v32 := fun _ => by kernel_rfl
  t35 := by kernel_rfl
  a35 := fun _ => by kernel_rfl
  z35 := fun _ => by kernel_rfl
  v35 := fun _ => by kernel_rfl
  t36 := by kernel_rfl
  a36 := fun _ => by kernel_rfl
  z36 := fun _ => by kernel_rfl
  v36 := fun _ => by kernel_rfl
  t41 := by kernel_rfl
  a41 := fun _ => by kernel_rfl
  z41 := fun _ => by kernel_rfl
  v41 := fun _ => by kernel_rfl
  t44 := by kernel_rfl
  a44 := fun _ => by kernel_rfl
  z44 := fun _ => by kernel_rfl
  v44 := fun _ => by kernel_rfl
  t46 := by kernel_rfl
  a46 := fun _ => by kernel_rfl
  z46 := fun _ => by kernel_rfl
  v46 := fun _ => by kernel_rfl
  t53 := by kernel_rfl
  a53 := fun _ => by kernel_rfl
  z53 := fun _ => by kernel_rfl
  v53 := fun _ => by kernel_rfl
  t57 := by kernel_rfl
  a57 := fun _ => by kernel_rfl
  z57 := fun _ => by kernel_rfl
  v57 := fun _ => by kernel_rfl
  t63 := by kernel_rfl
  a63 := fun _ => by kernel_rfl
  z63 := fun _ => by kernel_rfl
  v63 := fun _ => by kernel_rfl
  t64 := by kernel_rfl
  a64 := fun _ => by kernel_rfl
  z64 := fun _ => by kernel_rfl
  v64 := fun _ => by kernel_rfl
end Go.Proofs.YtalidmlomfobdaaDoor
