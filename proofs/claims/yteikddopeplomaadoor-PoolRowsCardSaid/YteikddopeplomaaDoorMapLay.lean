/- Contracts of the library's, laid at this program. Printed by wip/laygen.py. -/
import Derived.Test.YteikddopeplomaaDoorProg
import Derived.KernelRfl
import Derived.Shelf.SlLaysX
import Derived.Shelf.SlLaysW
import Derived.Shelf.SlLaysZI
import Derived.Shelf.SlLaysM
namespace Go.Proofs.YteikddopeplomaaDoor
open Go.Shelf

def copyMRen : Ren := ⟨fun k => if k = 5 then 71 else k, fun k => if k = 23 then 103 else if k = 24 then 103 else if k = 26 then 3 else if k = 27 then 37 else k, fun k => k⟩
set_option maxRecDepth 100000 in
theorem copyMLays : SlLaysX.n5 Tryd.prog copyMRen where
  mixed := by kernel_rfl
  f5 := ⟨Tryd.f71.name, by kernel_rfl, by kernel_rfl⟩
  t0 := by kernel_rfl
  a0 := fun _ => by kernel_rfl
  z0 := fun _ => by kernel_rfl
  v0 := fun _ => by kernel_rfl
  t4 := by kernel_rfl
  a4 := fun _ => by kernel_rfl
  z4 := fun _ => by kernel_rfl
  v4 := fun _ => by kernel_rfl
  t23 := by kernel_rfl
  a23 := fun _ => by kernel_rfl
  z23 := fun _ => by kernel_rfl
  v23 := fun _ => by kernel_rfl
  t24 := by kernel_rfl
  a24 := fun _ => by kernel_rfl
  z24 := fun _ => by kernel_rfl
  v24 := fun _ => by kernel_rfl
  a26 := fun _ => by kernel_rfl
  z26 := fun _ => by kernel_rfl
  a27 := fun _ => by kernel_rfl
  z27 := fun _ => by kernel_rfl

def cloneMRen : Ren := ⟨fun k => if k = 5 then 73 else if k = 7 then 92 else k, fun k => if k = 3 then 37 else if k = 23 then 103 else if k = 25 then 3 else k, fun k => k⟩
set_option maxRecDepth 100000 in
theorem cloneMLays : SlLaysW.n5 Tryd.prog cloneMRen where
  mixed := by kernel_rfl
  f5 := ⟨Tryd.f73.name, by kernel_rfl, by kernel_rfl⟩
  f7 := by kernel_rfl
  t4 := by kernel_rfl
  a4 := fun _ => by kernel_rfl
  z4 := fun _ => by kernel_rfl
  v4 := fun _ => by kernel_rfl
  t20 := by kernel_rfl
  a20 := fun _ => by kernel_rfl
  z20 := fun _ => by kernel_rfl
  v20 := fun _ => by kernel_rfl
  t23 := by kernel_rfl
  a23 := fun _ => by kernel_rfl
  z23 := fun _ => by kernel_rfl
  v23 := fun _ => by kernel_rfl

def keysMRen : Ren := ⟨fun k => if k = 7 then 72 else if k = 10 then 91 else k, fun k => if k = 3 then 37 else if k = 23 then 103 else if k = 26 then 3 else if k = 27 then 112 else if k = 28 then 113 else if k = 33 then 93 else k, fun k => k⟩
set_option maxRecDepth 100000 in
theorem keysMLays : SlLaysZI.n7 Tryd.prog keysMRen where
  mixed := by kernel_rfl
  f7 := ⟨Tryd.f72.name, by kernel_rfl, by kernel_rfl⟩
  f10 := ⟨Tryd.f91.name, by kernel_rfl, by kernel_rfl⟩
  t0 := by kernel_rfl
  a0 := fun _ => by kernel_rfl
  z0 := fun _ => by kernel_rfl
  v0 := fun _ => by kernel_rfl
  t4 := by kernel_rfl
  a4 := fun _ => by kernel_rfl
  z4 := fun _ => by kernel_rfl
  v4 := fun _ => by kernel_rfl
  t23 := by kernel_rfl
  a23 := fun _ => by kernel_rfl
  z23 := fun _ => by kernel_rfl
  v23 := fun _ => by kernel_rfl
  t26 := by kernel_rfl
  a26 := fun _ => by kernel_rfl
  z26 := fun _ => by kernel_rfl
  v26 := fun _ => by kernel_rfl
  t27 := by kernel_rfl
  a27 := fun _ => by kernel_rfl
  z27 := fun _ => by kernel_rfl
  v27 := fun _ => by kernel_rfl
  t28 := by kernel_rfl
  a28 := fun _ => by kernel_rfl
  z28 := fun _ => by kernel_rfl
  v28 := fun _ => by kernel_rfl
  t33 := by kernel_rfl
  a33 := fun _ => by kernel_rfl
  z33 := fun _ => by kernel_rfl
  v33 := fun _ => by kernel_rfl

def sortedIRen : Ren := ⟨fun k => if k = 6 then 67 else if k = 8 then 88 else if k = 9 then 89 else if k = 11 then 103 else if k = 12 then 104 else if k = 13 then 105 else if k = 14 then 110 else if k = 15 then 111 else if k = 16 then 112 else if k = 17 then 113 else if k = 18 then 114 else if k = 19 then 115 else if k = 20 then 116 else if k = 21 then 117 else if k = 22 then 118 else if k = 23 then 119 else if k = 24 then 120 else if k = 25 then 122 else if k = 26 then 123 else if k = 27 then 124 else if k = 28 then 125 else if k = 29 then 126 else if k = 30 then 127 else if k = 31 then 129 else k, fun k => if k = 24 then 50 else if k = 26 then 3 else if k = 28 then 113 else if k = 33 then 93 else if k = 37 then 145 else if k = 39 then 151 else if k = 40 then 152 else if k = 45 then 156 else if k = 48 then 159 else if k = 50 then 161 else if k = 51 then 162 else if k = 55 then 166 else if k = 57 then 169 else if k = 58 then 170 else k, fun k => k⟩
set_option maxRecDepth 100000 in
theorem sortedILays : SlLaysZI.n6 Tryd.prog sortedIRen where
  mixed := by kernel_rfl
  f6 := ⟨Tryd.f67.name, by kernel_rfl, by kernel_rfl⟩
  f8 := ⟨Tryd.f88.name, by kernel_rfl, by kernel_rfl⟩
  f11 := ⟨Tryd.f103.name, by kernel_rfl, by kernel_rfl⟩
  t0 := by kernel_rfl
  a0 := fun _ => by kernel_rfl
  z0 := fun _ => by kernel_rfl
  v0 := fun _ => by kernel_rfl
  t24 := by kernel_rfl
  a24 := fun _ => by kernel_rfl
  z24 := fun _ => by kernel_rfl
  v24 := fun _ => by kernel_rfl
  t26 := by kernel_rfl
  a26 := fun _ => by kernel_rfl
  z26 := fun _ => by kernel_rfl
  v26 := fun _ => by kernel_rfl
  t28 := by kernel_rfl
  a28 := fun _ => by kernel_rfl
  z28 := fun _ => by kernel_rfl
  v28 := fun _ => by kernel_rfl
  i26 := by kernel_rfl

def sortIRen : Ren := ⟨fun k => if k = 5 then 89 else if k = 7 then 104 else if k = 8 then 105 else if k = 10 then 110 else if k = 11 then 111 else if k = 12 then 112 else if k = 13 then 113 else if k = 14 then 114 else if k = 15 then 115 else if k = 16 then 116 else if k = 17 then 117 else if k = 18 then 118 else if k = 19 then 119 else if k = 20 then 120 else if k = 30 then 122 else if k = 31 then 123 else if k = 32 then 124 else if k = 33 then 125 else if k = 34 then 126 else if k = 35 then 127 else if k = 40 then 129 else k, fun k => if k = 22 then 50 else if k = 23 then 50 else if k = 25 then 3 else if k = 32 then 145 else if k = 35 then 151 else if k = 36 then 152 else if k = 41 then 156 else if k = 44 then 159 else if k = 46 then 161 else if k = 53 then 162 else if k = 57 then 166 else if k = 63 then 169 else if k = 64 then 170 else k, fun k => k⟩
set_option maxRecDepth 100000 in
theorem sortILays : SlLaysM.n5 Tryd.prog sortIRen where
  mixed := by kernel_rfl
  f5 := ⟨Tryd.f89.name, by kernel_rfl, by kernel_rfl⟩
  f7 := ⟨Tryd.f104.name, by kernel_rfl, by kernel_rfl⟩
  f8 := by kernel_rfl
  f10 := ⟨Tryd.f110.name, by kernel_rfl, by kernel_rfl⟩
  f11 := ⟨Tryd.f111.name, by kernel_rfl, by kernel_rfl⟩
  f12 := ⟨Tryd.f112.name, by kernel_rfl, by kernel_rfl⟩
  f13 := ⟨Tryd.f113.name, by kernel_rfl, by kernel_rfl⟩
  f14 := ⟨Tryd.f114.name, by kernel_rfl, by kernel_rfl⟩
  f15 := ⟨Tryd.f115.name, by kernel_rfl, by kernel_rfl⟩
  f16 := ⟨Tryd.f116.name, by kernel_rfl, by kernel_rfl⟩
  f17 := ⟨Tryd.f117.name, by kernel_rfl, by kernel_rfl⟩
  f18 := ⟨Tryd.f118.name, by kernel_rfl, by kernel_rfl⟩
  f19 := by kernel_rfl
  f20 := by kernel_rfl
  f30 := ⟨Tryd.f122.name, by kernel_rfl, by kernel_rfl⟩
  f31 := by kernel_rfl
  f32 := by kernel_rfl
  f33 := ⟨Tryd.f125.name, by kernel_rfl, by kernel_rfl⟩
  f34 := ⟨Tryd.f126.name, by kernel_rfl, by kernel_rfl⟩
  f35 := ⟨Tryd.f127.name, by kernel_rfl, by kernel_rfl⟩
  f40 := ⟨Tryd.f129.name, by kernel_rfl, by kernel_rfl⟩
  t0 := by kernel_rfl
  a0 := fun _ => by kernel_rfl
  z0 := fun _ => by kernel_rfl
  v0 := fun _ => by kernel_rfl
  t3 := by kernel_rfl
  a3 := fun _ => by kernel_rfl
  z3 := fun _ => by kernel_rfl
  v3 := fun _ => by kernel_rfl
  t4 := by kernel_rfl
  a4 := fun _ => by kernel_rfl
  z4 := fun _ => by kernel_rfl
  v4 := fun _ => by kernel_rfl
  t5 := by kernel_rfl
  a5 := fun _ => by kernel_rfl
  z5 := fun _ => by kernel_rfl
  v5 := fun _ => by kernel_rfl
  t9 := by kernel_rfl
  a9 := fun _ => by kernel_rfl
  z9 := fun _ => by kernel_rfl
  v9 := fun _ => by kernel_rfl
  t22 := by kernel_rfl
  a22 := fun _ => by kernel_rfl
  z22 := fun _ => by kernel_rfl
  v22 := fun _ => by kernel_rfl
  t23 := by kernel_rfl
  a23 := fun _ => by kernel_rfl
  z23 := fun _ => by kernel_rfl
  v23 := fun _ => by kernel_rfl
  t25 := by kernel_rfl
  a25 := fun _ => by kernel_rfl
  z25 := fun _ => by kernel_rfl
  v25 := fun _ => by kernel_rfl
  t32 := by kernel_rfl
  a32 := fun _ => by kernel_rfl
  z32 := fun _ => by kernel_rfl
  v32 := fun _ => by kernel_rfl
  t35 := by kernel_rfl
  a35 := fun _ => by kernel_rfl
  z35 := fun _ => by kernel_rfl
  v35 := fun _ => by kernel_rfl
  t36 := by kernel_rfl
  a36 := fun _ => by kernel_rfl
  z36 := fun _ => by kernel_rfl
  v36 := fun _ => by kernel_rfl
  t41 := by kernel_rfl
  a41 := fun _ => by kernel_rfl
  z41 := fun _ => by kernel_rfl
  v41 := fun _ => by kernel_rfl
  t44 := by kernel_rfl
  a44 := fun _ => by kernel_rfl
  z44 := fun _ => by kernel_rfl
  v44 := fun _ => by kernel_rfl
  t46 := by kernel_rfl
  a46 := fun _ => by kernel_rfl
  z46 := fun _ => by kernel_rfl
  v46 := fun _ => by kernel_rfl
  t53 := by kernel_rfl
  a53 := fun _ => by kernel_rfl
  z53 := fun _ => by kernel_rfl
  v53 := fun _ => by kernel_rfl
  t57 := by kernel_rfl
  a57 := fun _ => by kernel_rfl
  z57 := fun _ => by kernel_rfl
  v57 := fun _ => by kernel_rfl
  t63 := by kernel_rfl
  a63 := fun _ => by kernel_rfl
  z63 := fun _ => by kernel_rfl
  v63 := fun _ => by kernel_rfl
  t64 := by kernel_rfl
  a64 := fun _ => by kernel_rfl
  z64 := fun _ => by kernel_rfl
  v64 := fun _ => by kernel_rfl
end Go.Proofs.YteikddopeplomaaDoor
