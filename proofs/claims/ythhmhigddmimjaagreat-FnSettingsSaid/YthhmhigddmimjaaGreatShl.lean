/-
  The contracts of slices.Sort and slices.Compact at the element type int64, laid at this program (printed by gen_shelf.py with the kit's own tool).
-/
import Derived.Test.YthhmhigddmimjaaGreatProg
import Derived.Shelf.SlGeneric
import Derived.Shelf.SlLaysN
import Derived.Shelf.SlLaysNS
import Derived.Ground.SlgnProg
namespace Go.Proofs.YthhmhigddmimjaaGreat
open Go.Shelf
def sort64_ren : Go.Shelf.Ren := ⟨fun | 53 => 169 | 64 => 176 | 63 => 175 | 78 => 186 | 79 => 187 | 70 => 178 | 71 => 179 | 72 => 180 | 73 => 181 | 74 => 182 | 75 => 183 | 59 => 170 | 76 => 184 | 77 => 185 | 88 => 188 | 89 => 189 | 90 => 190 | 91 => 191 | 92 => 192 | 68 => 177 | 96 => 193 | n => n, fun | 22 => 26 | 23 => 2 | 3 => 3 | 51 => 80 | 0 => 0 | 67 => 172 | 69 => 90 | 4 => 4 | 61 => 166 | 60 => 165 | 44 => 154 | 5 => 5 | 9 => 9 | 75 => 173 | 79 => 177 | 83 => 179 | 84 => 180 | n => n, fun | n => n⟩
theorem sort64 : Go.Proofs.SlLaysN.n53 Tryz.prog sort64_ren := {
  mixed := by kernel_rfl
  f53 := ⟨Tryz.f169.name, by decide, Tryz.func169.trans (congrArg some (by kernel_rfl))⟩
  f59 := ⟨Tryz.f170.name, by decide, Tryz.func170.trans (congrArg some (by kernel_rfl))⟩
  f63 := ⟨Tryz.f175.name, by decide, Tryz.func175.trans (congrArg some (by kernel_rfl))⟩
  f64 := Tryz.func176.trans (congrArg some (by kernel_rfl))
  f68 := ⟨Tryz.f177.name, by decide, Tryz.func177.trans (congrArg some (by kernel_rfl))⟩
  f70 := ⟨Tryz.f178.name, by decide, Tryz.func178.trans (congrArg some (by kernel_rfl))⟩
  f71 := ⟨Tryz.f179.name, by decide, Tryz.func179.trans (congrArg some (by kernel_rfl))⟩
  f72 := ⟨Tryz.f180.name, by decide, Tryz.func180.trans (congrArg some (by kernel_rfl))⟩
  f73 := ⟨Tryz.f181.name, by decide, Tryz.func181.trans (congrArg some (by kernel_rfl))⟩
  f74 := ⟨Tryz.f182.name, by decide, Tryz.func182.trans (congrArg some (by kernel_rfl))⟩
  f75 := ⟨Tryz.f183.name, by decide, Tryz.func183.trans (congrArg some (by kernel_rfl))⟩
  f76 := ⟨Tryz.f184.name, by decide, Tryz.func184.trans (congrArg some (by kernel_rfl))⟩
  f77 := ⟨Tryz.f185.name, by decide, Tryz.func185.trans (congrArg some (by kernel_rfl))⟩
  f78 := Tryz.func186.trans (congrArg some (by kernel_rfl))
  f79 := Tryz.func187.trans (congrArg some (by kernel_rfl))
  f88 := ⟨Tryz.f188.name, by decide, Tryz.func188.trans (congrArg some (by kernel_rfl))⟩
  f89 := Tryz.func189.trans (congrArg some (by kernel_rfl))
  f90 := Tryz.func190.trans (congrArg some (by kernel_rfl))
  f91 := ⟨Tryz.f191.name, by decide, Tryz.func191.trans (congrArg some (by kernel_rfl))⟩
  f92 := ⟨Tryz.f192.name, by decide, Tryz.func192.trans (congrArg some (by kernel_rfl))⟩
  f96 := ⟨Tryz.f193.name, by decide, Tryz.func193.trans (congrArg some (by kernel_rfl))⟩
  t0 := Tryz.underlying0
  a0 := Tryz.isAgg0
  z0 := Tryz.sizeOf0
  v0 := Tryz.zeroValue0
  t3 := Tryz.underlying3
  a3 := Tryz.isAgg3
  z3 := Tryz.sizeOf3
  v3 := Tryz.zeroValue3
  t4 := Tryz.underlying4
  a4 := Tryz.isAgg4
  z4 := Tryz.sizeOf4
  v4 := Tryz.zeroValue4
  t5 := Tryz.underlying5
  a5 := Tryz.isAgg5
  z5 := Tryz.sizeOf5
  v5 := Tryz.zeroValue5
  t9 := Tryz.underlying9
  a9 := Tryz.isAgg9
  z9 := Tryz.sizeOf9
  v9 := Tryz.zeroValue9
  t22 := Tryz.underlying26
  a22 := Tryz.isAgg26
  z22 := Tryz.sizeOf26
  v22 := Tryz.zeroValue26
  t23 := Tryz.underlying2
  a23 := Tryz.isAgg2
  z23 := Tryz.sizeOf2
  v23 := Tryz.zeroValue2
  t44 := Tryz.underlying154
  a44 := Tryz.isAgg154
  z44 := Tryz.sizeOf154
  v44 := Tryz.zeroValue154
  t51 := Tryz.underlying80
  a51 := Tryz.isAgg80
  z51 := Tryz.sizeOf80
  v51 := Tryz.zeroValue80
  t60 := Tryz.underlying165
  a60 := Tryz.isAgg165
  z60 := Tryz.sizeOf165
  v60 := Tryz.zeroValue165
  t61 := Tryz.underlying166
  a61 := Tryz.isAgg166
  z61 := Tryz.sizeOf166
  v61 := Tryz.zeroValue166
  t67 := Tryz.underlying172
  a67 := Tryz.isAgg172
  z67 := Tryz.sizeOf172
  v67 := Tryz.zeroValue172
  t69 := Tryz.underlying90
  a69 := Tryz.isAgg90
  z69 := Tryz.sizeOf90
  v69 := Tryz.zeroValue90
  t75 := Tryz.underlying173
  a75 := Tryz.isAgg173
  z75 := Tryz.sizeOf173
  v75 := Tryz.zeroValue173
  t79 := Tryz.underlying177
  a79 := Tryz.isAgg177
  z79 := Tryz.sizeOf177
  v79 := Tryz.zeroValue177
  t83 := Tryz.underlying179
  a83 := Tryz.isAgg179
  z83 := Tryz.sizeOf179
  v83 := Tryz.zeroValue179
  t84 := Tryz.underlying180
  a84 := Tryz.isAgg180
  z84 := Tryz.sizeOf180
  v84 := Tryz.zeroValue180 }
def search64_ren : Go.Shelf.Ren := ⟨fun | 49 => 159 | 59 => 170 | 60 => 171 | 68 => 177 | n => n, fun | 22 => 26 | 23 => 2 | 3 => 3 | 4 => 4 | 51 => 80 | 0 => 0 | n => n, fun | n => n⟩
theorem search64 : Go.Proofs.SlLaysN.n49 Tryz.prog search64_ren := {
  mixed := by kernel_rfl
  f49 := ⟨Tryz.f159.name, by decide, Tryz.func159.trans (congrArg some (by kernel_rfl))⟩
  f59 := ⟨Tryz.f170.name, by decide, Tryz.func170.trans (congrArg some (by kernel_rfl))⟩
  f60 := ⟨Tryz.f171.name, by decide, Tryz.func171.trans (congrArg some (by kernel_rfl))⟩
  f68 := ⟨Tryz.f177.name, by decide, Tryz.func177.trans (congrArg some (by kernel_rfl))⟩
  t0 := Tryz.underlying0
  a0 := Tryz.isAgg0
  z0 := Tryz.sizeOf0
  v0 := Tryz.zeroValue0
  t3 := Tryz.underlying3
  a3 := Tryz.isAgg3
  z3 := Tryz.sizeOf3
  v3 := Tryz.zeroValue3
  t4 := Tryz.underlying4
  a4 := Tryz.isAgg4
  z4 := Tryz.sizeOf4
  v4 := Tryz.zeroValue4
  t22 := Tryz.underlying26
  a22 := Tryz.isAgg26
  z22 := Tryz.sizeOf26
  v22 := Tryz.zeroValue26
  t23 := Tryz.underlying2
  a23 := Tryz.isAgg2
  z23 := Tryz.sizeOf2
  v23 := Tryz.zeroValue2
  t51 := Tryz.underlying80
  a51 := Tryz.isAgg80
  z51 := Tryz.sizeOf80
  v51 := Tryz.zeroValue80 }
end Go.Proofs.YthhmhigddmimjaaGreat
