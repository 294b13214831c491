/- Library contracts laid at this program. -/
import Derived.Shelf.SlIterI.Sorted
import Derived.Shelf.SlIterI.Keys
import Derived.Shelf.SortM.Plain
import Derived.Shelf.SortM.SortNone
import Derived.Test.YtdplphebjhfliaaGreatProg
namespace Go.Proofs
open Go.Shelf
def Tryz.glSort_ren : Go.Shelf.Ren := ⟨fun | 5 => 104 | 8 => 169 | 7 => 168 | 19 => 224 | 20 => 225 | 10 => 215 | 11 => 216 | 12 => 217 | 13 => 218 | 14 => 219 | 15 => 220 | 16 => 221 | 17 => 222 | 18 => 223 | 30 => 249 | 31 => 250 | 32 => 251 | 33 => 252 | 34 => 253 | 35 => 227 | 40 => 263 | n => n, fun | 23 => 34 | 25 => 3 | 3 => 3 | 32 => 263 | 22 => 34 | 0 => 0 | 44 => 298 | 46 => 300 | 4 => 4 | 36 => 291 | 35 => 290 | 41 => 133 | 5 => 5 | 9 => 9 | 53 => 310 | 57 => 314 | 63 => 322 | 64 => 49 | n => n, fun | n => n⟩
theorem Tryz.glSort : Go.Proofs.SlLaysM.n5 Tryz.prog Tryz.glSort_ren := {
 mixed := by kernel_rfl
 f5 := ⟨Tryz.f104.name, by decide, Tryz.func104.trans (congrArg some (by kernel_rfl))⟩
 f7 := ⟨Tryz.f168.name, by decide, Tryz.func168.trans (congrArg some (by kernel_rfl))⟩
 f8 := Tryz.func169.trans (congrArg some (by kernel_rfl))
 f10 := ⟨Tryz.f215.name, by decide, Tryz.func215.trans (congrArg some (by kernel_rfl))⟩
 f11 := ⟨Tryz.f216.name, by decide, Tryz.func216.trans (congrArg some (by kernel_rfl))⟩
 f12 := ⟨Tryz.f217.name, by decide, Tryz.func217.trans (congrArg some (by kernel_rfl))⟩
 f13 := ⟨Tryz.f218.name, by decide, Tryz.func218.trans (congrArg some (by kernel_rfl))⟩
 f14 := ⟨Tryz.f219.name, by decide, Tryz.func219.trans (congrArg some (by kernel_rfl))⟩
 f15 := ⟨Tryz.f220.name, by decide, Tryz.func220.trans (congrArg some (by kernel_rfl))⟩
 f16 := ⟨Tryz.f221.name, by decide, Tryz.func221.trans (congrArg some (by kernel_rfl))⟩
 f17 := ⟨Tryz.f222.name, by decide, Tryz.func222.trans (congrArg some (by kernel_rfl))⟩
 f18 := ⟨Tryz.f223.name, by decide, Tryz.func223.trans (congrArg some (by kernel_rfl))⟩
 f19 := Tryz.func224.trans (congrArg some (by kernel_rfl))
 f20 := Tryz.func225.trans (congrArg some (by kernel_rfl))
 f30 := ⟨Tryz.f249.name, by decide, Tryz.func249.trans (congrArg some (by kernel_rfl))⟩
 f31 := Tryz.func250.trans (congrArg some (by kernel_rfl))
 f32 := Tryz.func251.trans (congrArg some (by kernel_rfl))
 f33 := ⟨Tryz.f252.name, by decide, Tryz.func252.trans (congrArg some (by kernel_rfl))⟩
 f34 := ⟨Tryz.f253.name, by decide, Tryz.func253.trans (congrArg some (by kernel_rfl))⟩
 f35 := ⟨Tryz.f227.name, by decide, Tryz.func227.trans (congrArg some (by kernel_rfl))⟩
 f40 := ⟨Tryz.f263.name, by decide, Tryz.func263.trans (congrArg some (by kernel_rfl))⟩
 t0 := Tryz.underlying0
 a0 := Tryz.isAgg0
 z0 := Tryz.sizeOf0
 v0 := Tryz.zeroValue0
 t3 := Tryz.underlying3
 a3 := Tryz.isAgg3
 z3 := Tryz.sizeOf3
 v3 := Tryz.zeroValue3
 t4 := Tryz.underlying4
 a4 := Tryz.isAgg4
 z4 := Tryz.sizeOf4
 v4 := Tryz.zeroValue4
 t5 := Tryz.underlying5
 a5 := Tryz.isAgg5
 z5 := Tryz.sizeOf5
 v5 := Tryz.zeroValue5
 t9 := Tryz.underlying9
 a9 := Tryz.isAgg9
 z9 := Tryz.sizeOf9
 v9 := Tryz.zeroValue9
 t22 := Tryz.underlying34
 a22 := Tryz.isAgg34
 z22 := Tryz.sizeOf34
 v22 := Tryz.zeroValue34
 t23 := Tryz.underlying34
 a23 := Tryz.isAgg34
 z23 := Tryz.sizeOf34
 v23 := Tryz.zeroValue34
 t25 := Tryz.underlying3
 a25 := Tryz.isAgg3
 z25 := Tryz.sizeOf3
 v25 := Tryz.zeroValue3
 t32 := Tryz.underlying263
 a32 := Tryz.isAgg263
 z32 := Tryz.sizeOf263
 v32 := Tryz.zeroValue263
 t35 := Tryz.underlying290
 a35 := Tryz.isAgg290
 z35 := Tryz.sizeOf290
 v35 := Tryz.zeroValue290
 t36 := Tryz.underlying291
 a36 := Tryz.isAgg291
 z36 := Tryz.sizeOf291
 v36 := Tryz.zeroValue291
 t41 := Tryz.underlying133
 a41 := Tryz.isAgg133
 z41 := Tryz.sizeOf133
 v41 := Tryz.zeroValue133
 t44 := Tryz.underlying298
 a44 := Tryz.isAgg298
 z44 := Tryz.sizeOf298
 v44 := Tryz.zeroValue298
 t46 := Tryz.underlying300
 a46 := Tryz.isAgg300
 z46 := Tryz.sizeOf300
 v46 := Tryz.zeroValue300
 t53 := Tryz.underlying310
 a53 := Tryz.isAgg310
 z53 := Tryz.sizeOf310
 v53 := Tryz.zeroValue310
 t57 := Tryz.underlying314
 a57 := Tryz.isAgg314
 z57 := Tryz.sizeOf314
 v57 := Tryz.zeroValue314
 t63 := Tryz.underlying322
 a63 := Tryz.isAgg322
 z63 := Tryz.sizeOf322
 v63 := Tryz.zeroValue322
 t64 := Tryz.underlying49
 a64 := Tryz.isAgg49
 z64 := Tryz.sizeOf49
 v64 := Tryz.zeroValue49 }
end Go.Proofs
