/-
  DERIVED: THE SHELF's CONTRACTS AT THIS DUMP, IN PLAIN WORDS (tools/lay-plain.mjs out of 'YtbkmggllccmflaaDoorL0.lean', which tools/lay-shelf.mjs wrote): THE SAME DECLARATIONS UNDER THE SAME NAMES: 'import', 'namespace', 'open', 'def', 'theorem' AND NOTHING ELSE: no command of the shelf's: FOR A HAND-IN. Each laying: the table of numbers ('.._ren') and one theorem, a field a fact of the dump's own or the kernel's comparison; each contract: ONE APPLICATION.
-/
import Derived.Shelf.Strings.SlTrimAscii
import Derived.Test.YtbkmggllccmflaaDoorProg
namespace Go.Proofs
open Go.Shelf
def Tryd.lays160_ren : Go.Shelf.Ren := ⟨fun | 160 => 13 | 232 => 15 | 231 => 14 | 227 => 16 | 234 => 18 | 233 => 17 | 236 => 20 | 235 => 19 | 228 => 21 | 271 => 24 | 151 => 23 | 197 => 22 | 120 => 27 | 152 => 26 | 260 => 25 | 137 => 28 | 119 => 29 | 224 => 30 | 225 => 31 | 217 => 32 | 266 => 33 | n => n, fun | 9 => 9 | 4 => 4 | 3 => 3 | 5 => 5 | 117 => 33 | 116 => 32 | 0 => 0 | 124 => 36 | 21 => 21 | 105 => 38 | 46 => 43 | 119 => 42 | 139 => 46 | 138 => 45 | n => n, fun | 3 => 0 | 4 => 1 | n => n⟩
theorem Tryd.lays160 : Go.Proofs.Lays.n160 Tryd.prog Tryd.lays160_ren := {
  mixed := by kernel_rfl
  f119 := Tryd.func29.trans (congrArg some (by kernel_rfl))
  f120 := Tryd.func27.trans (congrArg some (by kernel_rfl))
  f137 := Tryd.func28.trans (congrArg some (by kernel_rfl))
  f151 := Tryd.func23.trans (congrArg some (by kernel_rfl))
  f152 := Tryd.func26.trans (congrArg some (by kernel_rfl))
  f160 := Tryd.func13.trans (congrArg some (by kernel_rfl))
  f197 := Tryd.func22.trans (congrArg some (by kernel_rfl))
  f217 := Tryd.func32.trans (congrArg some (by kernel_rfl))
  f224 := Tryd.func30.trans (congrArg some (by kernel_rfl))
  f225 := Tryd.func31.trans (congrArg some (by kernel_rfl))
  f227 := Tryd.func16.trans (congrArg some (by kernel_rfl))
  f228 := Tryd.func21.trans (congrArg some (by kernel_rfl))
  f231 := Tryd.func14.trans (congrArg some (by kernel_rfl))
  f232 := Tryd.func15.trans (congrArg some (by kernel_rfl))
  f233 := Tryd.func17.trans (congrArg some (by kernel_rfl))
  f234 := Tryd.func18.trans (congrArg some (by kernel_rfl))
  f235 := Tryd.func19.trans (congrArg some (by kernel_rfl))
  f236 := Tryd.func20.trans (congrArg some (by kernel_rfl))
  f260 := Tryd.func25.trans (congrArg some (by kernel_rfl))
  f266 := Tryd.func33.trans (congrArg some (by kernel_rfl))
  f271 := Tryd.func24.trans (congrArg some (by kernel_rfl))
  t0 := Tryd.underlying0
  a0 := Tryd.isAgg0
  z0 := Tryd.sizeOf0
  v0 := Tryd.zeroValue0
  t3 := Tryd.underlying3
  a3 := Tryd.isAgg3
  z3 := Tryd.sizeOf3
  v3 := Tryd.zeroValue3
  t4 := Tryd.underlying4
  a4 := Tryd.isAgg4
  z4 := Tryd.sizeOf4
  v4 := Tryd.zeroValue4
  t5 := Tryd.underlying5
  a5 := Tryd.isAgg5
  z5 := Tryd.sizeOf5
  v5 := Tryd.zeroValue5
  t9 := Tryd.underlying9
  a9 := Tryd.isAgg9
  z9 := Tryd.sizeOf9
  v9 := Tryd.zeroValue9
  t21 := Tryd.underlying21
  a21 := Tryd.isAgg21
  z21 := Tryd.sizeOf21
  v21 := Tryd.zeroValue21
  t46 := Tryd.underlying43
  a46 := Tryd.isAgg43
  z46 := Tryd.sizeOf43
  v46 := Tryd.zeroValue43
  t105 := Tryd.underlying38
  a105 := Tryd.isAgg38
  z105 := Tryd.sizeOf38
  v105 := Tryd.zeroValue38
  t116 := Tryd.underlying32
  a116 := Tryd.isAgg32
  z116 := Tryd.sizeOf32
  t117 := Tryd.underlying33
  a117 := Tryd.isAgg33
  z117 := Tryd.sizeOf33
  v117 := Tryd.zeroValue33
  t119 := Tryd.underlying42
  a119 := Tryd.isAgg42
  z119 := Tryd.sizeOf42
  t124 := Tryd.underlying36
  a124 := Tryd.isAgg36
  z124 := Tryd.sizeOf36
  v124 := Tryd.zeroValue36
  t138 := Tryd.underlying45
  a138 := Tryd.isAgg45
  z138 := Tryd.sizeOf45
  v138 := Tryd.zeroValue45
  t139 := Tryd.underlying46
  a139 := Tryd.isAgg46
  z139 := Tryd.sizeOf46
  v139 := Tryd.zeroValue46
  g3 := by kernel_rfl
  g4 := by kernel_rfl }
end Go.Proofs
