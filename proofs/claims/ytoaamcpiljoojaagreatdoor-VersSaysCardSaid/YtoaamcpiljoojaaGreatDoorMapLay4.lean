/- Contracts of the library's, laid at this program. Printed by wip/laygen.py. Contracts of the library's, laid at this program. Printed by wip/laygen.py. -/
import Derived.Test.YtoaamcpiljoojaaGreatDoorProg
import Derived.KernelRfl
import Derived.Shelf.SlLaysM
import Derived.Shelf.SlLaysE
namespace Go.Proofs.YtoaamcpiljoojaaGreatDoor
open Go.Shelf

def sortLRen : Ren := ⟨fun k => if k = 5 then 59 else if k = 7 then 95 else if k = 8 then 96 else if k = 10 then 113 else if k = 11 then 114 else if k = 12 then 115 else if k = 13 then 116 else if k = 14 then 117 else if k = 15 then 118 else if k = 16 then 119 else if k = 17 then 120 else if k = 18 then 121 else if k = 19 then 122 else if k = 20 then 123 else if k = 30 then 144 else if k = 31 then 145 else if k = 32 then 146 else if k = 33 then 147 else if k = 34 then 148 else if k = 35 then 149 else if k = 40 then 157 else k, fun k => if k = 22 then 58 else if k = 23 then 58 else if k = 25 then 2 else if k = 32 then 134 else if k = 35 then 151 else if k = 36 then 152 else if k = 41 then 85 else if k = 44 then 159 else if k = 46 then 161 else if k = 53 then 176 else if k = 57 then 180 else if k = 63 then 186 else if k = 64 then 187 else k, fun k => k⟩
set_option maxRecDepth 100000 in
theorem sortLLays : SlLaysM.n5 Tryz.prog sortLRen where
  mixed := by kernel_rfl
  f5 := ⟨Tryz.f59.name, by kernel_rfl, by kernel_rfl⟩
  f7 := ⟨Tryz.f95.name, by kernel_rfl, by kernel_rfl⟩
  f8 := by kernel_rfl
  f10 := ⟨Tryz.f113.name, by kernel_rfl, by kernel_rfl⟩
  f11 := ⟨Tryz.f114.name, by kernel_rfl, by kernel_rfl⟩
  f12 := ⟨Tryz.f115.name, by kernel_rfl, by kernel_rfl⟩
  f13 := ⟨Tryz.f116.name, by kernel_rfl, by kernel_rfl⟩
  f14 := ⟨Tryz.f117.name, by kernel_rfl, by kernel_rfl⟩
  f15 := ⟨Tryz.f118.name, by kernel_rfl, by kernel_rfl⟩
  f16 := ⟨Tryz.f119.name, by kernel_rfl, by kernel_rfl⟩
  f17 := ⟨Tryz.f120.name, by kernel_rfl, by kernel_rfl⟩
  f18 := ⟨Tryz.f121.name, by kernel_rfl, by kernel_rfl⟩
  f19 := by kernel_rfl
  f20 := by kernel_rfl
  f30 := ⟨Tryz.f144.name, by kernel_rfl, by kernel_rfl⟩
  f31 := by kernel_rfl
  f32 := by kernel_rfl
  f33 := ⟨Tryz.f147.name, by kernel_rfl, by kernel_rfl⟩
  f34 := ⟨Tryz.f148.name, by kernel_rfl, by kernel_rfl⟩
  f35 := ⟨Tryz.f149.name, by kernel_rfl, by kernel_rfl⟩
  f40 := ⟨Tryz.f157.name, by kernel_rfl, by kernel_rfl⟩
  t0 := by kernel_rfl
  a0 := fun _ => by kernel_rfl
  z0 := fun _ => by kernel_rfl
  v0 := fun _ => by kernel_rfl
  t3 := by kernel_rfl
  a3 := fun _ => by kernel_rfl
  z3 := fun _ => by kernel_rfl
  v3 := fun _ => by kernel_rfl
  t4 := by kernel_rfl
  a4 := fun _ => by kernel_rfl
  z4 := fun _ => by kernel_rfl
  v4 := fun _ => by kernel_rfl
  t5 := by kernel_rfl
  a5 := fun _ => by kernel_rfl
  z5 := fun _ => by kernel_rfl
  v5 := fun _ => by kernel_rfl
  t9 := by kernel_rfl
  a9 := fun _ => by kernel_rfl
  z9 := fun _ => by kernel_rfl
  v9 := fun _ => by kernel_rfl
  t22 := by kernel_rfl
  a22 := fun _ => by kernel_rfl
  z22 := fun _ => by kernel_rfl
  v22 := fun _ => by kernel_rfl
  t23 := by kernel_rfl
  a23 := fun _ => by kernel_rfl
  z23 := fun _ => by kernel_rfl
  v23 := fun _ => by kernel_rfl
  t25 := by kernel_rfl
  a25 := fun _ => by kernel_rfl
  z25 := fun _ => by kernel_rfl
  v25 := fun _ => by kernel_rfl
  t32 := by kernel_rfl
  a32 := fun _ => by kernel_rfl
  z32 := fun _ => by kernel_rfl
  v32 := fun _ => by kernel_rfl
  t35 := by kernel_rfl
  a35 := fun _ => by kernel_rfl
  z35 := fun _ => by kernel_rfl
  v35 := fun _ => by kernel_rfl
  t36 := by kernel_rfl
  a36 := fun _ => by kernel_rfl
  z36 := fun _ => by kernel_rfl
  v36 := fun _ => by kernel_rfl
  t41 := by kernel_rfl
  a41 := fun _ => by kernel_rfl
  z41 := fun _ => by kernel_rfl
  v41 := fun _ => by kernel_rfl
  t44 := by kernel_rfl
  a44 := fun _ => by kernel_rfl
  z44 := fun _ => by kernel_rfl
  v44 := fun _ => by kernel_rfl
  t46 := by kernel_rfl
  a46 := fun _ => by kernel_rfl
  z46 := fun _ => by kernel_rfl
  v46 := fun _ => by kernel_rfl
  t53 := by kernel_rfl
  a53 := fun _ => by kernel_rfl
  z53 := fun _ => by kernel_rfl
  v53 := fun _ => by kernel_rfl
  t57 := by kernel_rfl
  a57 := fun _ => by kernel_rfl
  z57 := fun _ => by kernel_rfl
  v57 := fun _ => by kernel_rfl
  t63 := by kernel_rfl
  a63 := fun _ => by kernel_rfl
  z63 := fun _ => by kernel_rfl
  v63 := fun _ => by kernel_rfl
  t64 := by kernel_rfl
  a64 := fun _ => by kernel_rfl
  z64 := fun _ => by kernel_rfl
  v64 := fun _ => by kernel_rfl

def sortIRen : Ren := ⟨fun k => if k = 5 then 74 else if k = 7 then 108 else if k = 8 then 96 else if k = 10 then 134 else if k = 11 then 135 else if k = 12 then 136 else if k = 13 then 137 else if k = 14 then 138 else if k = 15 then 139 else if k = 16 then 140 else if k = 17 then 141 else if k = 18 then 142 else if k = 19 then 122 else if k = 20 then 123 else if k = 30 then 154 else if k = 31 then 145 else if k = 32 then 146 else if k = 33 then 155 else if k = 34 then 156 else if k = 35 then 151 else if k = 40 then 161 else k, fun k => if k = 22 then 74 else if k = 23 then 74 else if k = 25 then 3 else if k = 32 then 134 else if k = 35 then 151 else if k = 36 then 152 else if k = 41 then 85 else if k = 44 then 159 else if k = 46 then 161 else if k = 53 then 176 else if k = 57 then 180 else if k = 63 then 186 else if k = 64 then 187 else k, fun k => k⟩
set_option maxRecDepth 100000 in
theorem sortILays : SlLaysM.n5 Tryz.prog sortIRen where
  mixed := by kernel_rfl
  f5 := ⟨Tryz.f74.name, by kernel_rfl, by kernel_rfl⟩
  f7 := ⟨Tryz.f108.name, by kernel_rfl, by kernel_rfl⟩
  f8 := by kernel_rfl
  f10 := ⟨Tryz.f134.name, by kernel_rfl, by kernel_rfl⟩
  f11 := ⟨Tryz.f135.name, by kernel_rfl, by kernel_rfl⟩
  f12 := ⟨Tryz.f136.name, by kernel_rfl, by kernel_rfl⟩
  f13 := ⟨Tryz.f137.name, by kernel_rfl, by kernel_rfl⟩
  f14 := ⟨Tryz.f138.name, by kernel_rfl, by kernel_rfl⟩
  f15 := ⟨Tryz.f139.name, by kernel_rfl, by kernel_rfl⟩
  f16 := ⟨Tryz.f140.name, by kernel_rfl, by kernel_rfl⟩
  f17 := ⟨Tryz.f141.name, by kernel_rfl, by kernel_rfl⟩
  f18 := ⟨Tryz.f142.name, by kernel_rfl, by kernel_rfl⟩
  f19 := by kernel_rfl
  f20 := by kernel_rfl
  f30 := ⟨Tryz.f154.name, by kernel_rfl, by kernel_rfl⟩
  f31 := by kernel_rfl
  f32 := by kernel_rfl
  f33 := ⟨Tryz.f155.name, by kernel_rfl, by kernel_rfl⟩
  f34 := ⟨Tryz.f156.name, by kernel_rfl, by kernel_rfl⟩
  f35 := ⟨Tryz.f151.name, by kernel_rfl, by kernel_rfl⟩
  f40 := ⟨Tryz.f161.name, by kernel_rfl, by kernel_rfl⟩
  t0 := by kernel_rfl
  a0 := fun _ => by kernel_rfl
  z0 := fun _ => by kernel_rfl
  v0 := fun _ => by kernel_rfl
  t3 := by kernel_rfl
  a3 := fun _ => by kernel_rfl
  z3 := fun _ => by kernel_rfl
  v3 := fun _ => by kernel_rfl
  t4 := by kernel_rfl
  a4 := fun _ => by kernel_rfl
  z4 := fun _ => by kernel_rfl
  v4 := fun _ => by kernel_rfl
  t5 := by kernel_rfl
  a5 := fun _ => by kernel_rfl
  z5 := fun _ => by kernel_rfl
  v5 := fun _ => by kernel_rfl
  t9 := by kernel_rfl
  a9 := fun _ => by kernel_rfl
  z9 := fun _ => by kernel_rfl
  v9 := fun _ => by kernel_rfl
  t22 := by kernel_rfl
  a22 := fun _ => by kernel_rfl
  z22 := fun _ => by kernel_rfl
  v22 := fun _ => by kernel_rfl
  t23 := by kernel_rfl
  a23 := fun _ => by kernel_rfl
  z23 := fun _ => by kernel_rfl
  v23 := fun _ => by kernel_rfl
  t25 := by kernel_rfl
  a25 := fun _ => by kernel_rfl
  z25 := fun _ => by kernel_rfl
  v25 := fun _ => by kernel_rfl
  t32 := by kernel_rfl
  a32 := fun _ => by kernel_rfl
  z32 := fun _ => by kernel_rfl
  v32 := fun _ => by kernel_rfl
  t35 := by kernel_rfl
  a35 := fun _ => by kernel_rfl
  z35 := fun _ => by kernel_rfl
  v35 := fun _ => by kernel_rfl
  t36 := by kernel_rfl
  a36 := fun _ => by kernel_rfl
  z36 := fun _ => by kernel_rfl
  v36 := fun _ => by kernel_rfl
  t41 := by kernel_rfl
  a41 := fun _ => by kernel_rfl
  z41 := fun _ => by kernel_rfl
  v41 := fun _ => by kernel_rfl
  t44 := by kernel_rfl
  a44 := fun _ => by kernel_rfl
  z44 := fun _ => by kernel_rfl
  v44 := fun _ => by kernel_rfl
  t46 := by kernel_rfl
  a46 := fun _ => by kernel_rfl
  z46 := fun _ => by kernel_rfl
  v46 := fun _ => by kernel_rfl
  t53 := by kernel_rfl
  a53 := fun _ => by kernel_rfl
  z53 := fun _ => by kernel_rfl
  v53 := fun _ => by kernel_rfl
  t57 := by kernel_rfl
  a57 := fun _ => by kernel_rfl
  z57 := fun _ => by kernel_rfl
  v57 := fun _ => by kernel_rfl
  t63 := by kernel_rfl
  a63 := fun _ => by kernel_rfl
  z63 := fun _ => by kernel_rfl
  v63 := fun _ => by kernel_rfl
  t64 := by kernel_rfl
  a64 := fun _ => by kernel_rfl
  z64 := fun _ => by kernel_rfl
  v64 := fun _ => by kernel_rfl
end Go.Proofs.YtoaamcpiljoojaaGreatDoor
namespace Go.Proofs.YtoaamcpiljoojaaGreatDoor
open Go.Shelf

def compLRen : Ren := ⟨fun k => if k = 43 then 60 else k, fun k => if k = 22 then 58 else if k = 23 then 2 else k, fun k => k⟩
set_option maxRecDepth 100000 in
theorem compLLays : SlLaysE.n43 Tryz.prog compLRen where
  mixed := by kernel_rfl
  f43 := ⟨Tryz.f60.name, by kernel_rfl, by kernel_rfl⟩
  t0 := by kernel_rfl
  a0 := fun _ => by kernel_rfl
  z0 := fun _ => by kernel_rfl
  v0 := fun _ => by kernel_rfl
  t3 := by kernel_rfl
  a3 := fun _ => by kernel_rfl
  z3 := fun _ => by kernel_rfl
  v3 := fun _ => by kernel_rfl
  t4 := by kernel_rfl
  a4 := fun _ => by kernel_rfl
  z4 := fun _ => by kernel_rfl
  v4 := fun _ => by kernel_rfl
  t22 := by kernel_rfl
  a22 := fun _ => by kernel_rfl
  z22 := fun _ => by kernel_rfl
  v22 := fun _ => by kernel_rfl
  a23 := fun _ => by kernel_rfl
  z23 := fun _ => by kernel_rfl

def compIRen : Ren := ⟨fun k => if k = 43 then 75 else k, fun k => if k = 22 then 74 else if k = 23 then 3 else k, fun k => k⟩
set_option maxRecDepth 100000 in
theorem compILays : SlLaysE.n43 Tryz.prog compIRen where
  mixed := by kernel_rfl
  f43 := ⟨Tryz.f75.name, by kernel_rfl, by kernel_rfl⟩
  t0 := by kernel_rfl
  a0 := fun _ => by kernel_rfl
  z0 := fun _ => by kernel_rfl
  v0 := fun _ => by kernel_rfl
  t3 := by kernel_rfl
  a3 := fun _ => by kernel_rfl
  z3 := fun _ => by kernel_rfl
  v3 := fun _ => by kernel_rfl
  t4 := by kernel_rfl
  a4 := fun _ => by kernel_rfl
  z4 := fun _ => by kernel_rfl
  v4 := fun _ => by kernel_rfl
  t22 := by kernel_rfl
  a22 := fun _ => by kernel_rfl
  z22 := fun _ => by kernel_rfl
  v22 := fun _ => by kernel_rfl
  a23 := fun _ => by kernel_rfl
  z23 := fun _ => by kernel_rfl
end Go.Proofs.YtoaamcpiljoojaaGreatDoor
