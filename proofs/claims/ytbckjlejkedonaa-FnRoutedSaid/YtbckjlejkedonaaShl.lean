/-
  The contracts of slices.Sort and slices.Compact at the element type int64, laid at this program (printed by gen_shelf.py with the kit's own tool).
-/
import Derived.Test.YtbckjlejkedonaaProg
import Derived.Shelf.SlGeneric
import Derived.Shelf.SlLaysN
import Derived.Shelf.SlLaysNS
import Derived.Ground.SlgnProg
namespace Go.Proofs.Ytbckjlejkedonaa
open Go.Shelf
def sort64_ren : Go.Shelf.Ren := ⟨fun | 53 => 84 | 64 => 163 | 63 => 162 | 78 => 210 | 79 => 211 | 70 => 201 | 71 => 202 | 72 => 203 | 73 => 204 | 74 => 205 | 75 => 206 | 59 => 207 | 76 => 208 | 77 => 209 | 88 => 229 | 89 => 230 | 90 => 231 | 91 => 232 | 92 => 233 | 68 => 234 | 96 => 246 | n => n, fun | 22 => 27 | 23 => 2 | 3 => 3 | 51 => 136 | 0 => 0 | 67 => 218 | 69 => 142 | 4 => 4 | 61 => 210 | 60 => 209 | 44 => 215 | 5 => 5 | 9 => 9 | 75 => 229 | 79 => 233 | 83 => 244 | 84 => 245 | n => n, fun | n => n⟩
theorem sort64 : Go.Proofs.SlLaysN.n53 Try.prog sort64_ren := {
  mixed := by kernel_rfl
  f53 := ⟨Try.f84.name, by decide, Try.func84.trans (congrArg some (by kernel_rfl))⟩
  f59 := ⟨Try.f207.name, by decide, Try.func207.trans (congrArg some (by kernel_rfl))⟩
  f63 := ⟨Try.f162.name, by decide, Try.func162.trans (congrArg some (by kernel_rfl))⟩
  f64 := Try.func163.trans (congrArg some (by kernel_rfl))
  f68 := ⟨Try.f234.name, by decide, Try.func234.trans (congrArg some (by kernel_rfl))⟩
  f70 := ⟨Try.f201.name, by decide, Try.func201.trans (congrArg some (by kernel_rfl))⟩
  f71 := ⟨Try.f202.name, by decide, Try.func202.trans (congrArg some (by kernel_rfl))⟩
  f72 := ⟨Try.f203.name, by decide, Try.func203.trans (congrArg some (by kernel_rfl))⟩
  f73 := ⟨Try.f204.name, by decide, Try.func204.trans (congrArg some (by kernel_rfl))⟩
  f74 := ⟨Try.f205.name, by decide, Try.func205.trans (congrArg some (by kernel_rfl))⟩
  f75 := ⟨Try.f206.name, by decide, Try.func206.trans (congrArg some (by kernel_rfl))⟩
  f76 := ⟨Try.f208.name, by decide, Try.func208.trans (congrArg some (by kernel_rfl))⟩
  f77 := ⟨Try.f209.name, by decide, Try.func209.trans (congrArg some (by kernel_rfl))⟩
  f78 := Try.func210.trans (congrArg some (by kernel_rfl))
  f79 := Try.func211.trans (congrArg some (by kernel_rfl))
  f88 := ⟨Try.f229.name, by decide, Try.func229.trans (congrArg some (by kernel_rfl))⟩
  f89 := Try.func230.trans (congrArg some (by kernel_rfl))
  f90 := Try.func231.trans (congrArg some (by kernel_rfl))
  f91 := ⟨Try.f232.name, by decide, Try.func232.trans (congrArg some (by kernel_rfl))⟩
  f92 := ⟨Try.f233.name, by decide, Try.func233.trans (congrArg some (by kernel_rfl))⟩
  f96 := ⟨Try.f246.name, by decide, Try.func246.trans (congrArg some (by kernel_rfl))⟩
  t0 := Try.underlying0
  a0 := Try.isAgg0
  z0 := Try.sizeOf0
  v0 := Try.zeroValue0
  t3 := Try.underlying3
  a3 := Try.isAgg3
  z3 := Try.sizeOf3
  v3 := Try.zeroValue3
  t4 := Try.underlying4
  a4 := Try.isAgg4
  z4 := Try.sizeOf4
  v4 := Try.zeroValue4
  t5 := Try.underlying5
  a5 := Try.isAgg5
  z5 := Try.sizeOf5
  v5 := Try.zeroValue5
  t9 := Try.underlying9
  a9 := Try.isAgg9
  z9 := Try.sizeOf9
  v9 := Try.zeroValue9
  t22 := Try.underlying27
  a22 := Try.isAgg27
  z22 := Try.sizeOf27
  v22 := Try.zeroValue27
  t23 := Try.underlying2
  a23 := Try.isAgg2
  z23 := Try.sizeOf2
  v23 := Try.zeroValue2
  t44 := Try.underlying215
  a44 := Try.isAgg215
  z44 := Try.sizeOf215
  v44 := Try.zeroValue215
  t51 := Try.underlying136
  a51 := Try.isAgg136
  z51 := Try.sizeOf136
  v51 := Try.zeroValue136
  t60 := Try.underlying209
  a60 := Try.isAgg209
  z60 := Try.sizeOf209
  v60 := Try.zeroValue209
  t61 := Try.underlying210
  a61 := Try.isAgg210
  z61 := Try.sizeOf210
  v61 := Try.zeroValue210
  t67 := Try.underlying218
  a67 := Try.isAgg218
  z67 := Try.sizeOf218
  v67 := Try.zeroValue218
  t69 := Try.underlying142
  a69 := Try.isAgg142
  z69 := Try.sizeOf142
  v69 := Try.zeroValue142
  t75 := Try.underlying229
  a75 := Try.isAgg229
  z75 := Try.sizeOf229
  v75 := Try.zeroValue229
  t79 := Try.underlying233
  a79 := Try.isAgg233
  z79 := Try.sizeOf233
  v79 := Try.zeroValue233
  t83 := Try.underlying244
  a83 := Try.isAgg244
  z83 := Try.sizeOf244
  v83 := Try.zeroValue244
  t84 := Try.underlying245
  a84 := Try.isAgg245
  z84 := Try.sizeOf245
  v84 := Try.zeroValue245 }
def compact64_ren : Go.Shelf.Ren := ⟨fun | 43 => 94 | n => n, fun | 22 => 27 | 23 => 2 | 3 => 3 | 4 => 4 | 0 => 0 | n => n, fun | n => n⟩
theorem compact64 : Go.Proofs.SlLaysN.n43 Try.prog compact64_ren := {
  mixed := by kernel_rfl
  f43 := ⟨Try.f94.name, by decide, Try.func94.trans (congrArg some (by kernel_rfl))⟩
  t0 := Try.underlying0
  a0 := Try.isAgg0
  z0 := Try.sizeOf0
  v0 := Try.zeroValue0
  t3 := Try.underlying3
  a3 := Try.isAgg3
  z3 := Try.sizeOf3
  v3 := Try.zeroValue3
  t4 := Try.underlying4
  a4 := Try.isAgg4
  z4 := Try.sizeOf4
  v4 := Try.zeroValue4
  t22 := Try.underlying27
  a22 := Try.isAgg27
  z22 := Try.sizeOf27
  v22 := Try.zeroValue27
  t23 := Try.underlying2
  a23 := Try.isAgg2
  z23 := Try.sizeOf2
  v23 := Try.zeroValue2
  i23 := by kernel_rfl }
end Go.Proofs.Ytbckjlejkedonaa
