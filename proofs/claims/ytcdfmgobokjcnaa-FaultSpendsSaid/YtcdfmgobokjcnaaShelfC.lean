/-
  DERIVED: THE SHELF's CONTRACTS AT THIS DUMP, IN PLAIN WORDS (tools/lay-plain.mjs out of 'TryShelf.lean', which tools/lay-shelf.mjs wrote): THE SAME DECLARATIONS UNDER THE SAME NAMES: 'import', 'namespace', 'open', 'def', 'theorem' AND NOTHING ELSE: no command of the shelf's: FOR A HAND-IN. Each laying: the table of numbers ('.._ren') and one theorem, a field a fact of the dump's own or the kernel's comparison; each contract: ONE APPLICATION.
-/
import Derived.Shelf.SlGeneric
import Derived.Shelf.SlLaysZI
import Derived.Ground.GgzProg
import Derived.Test.YtcdfmgobokjcnaaProg
namespace Go.Proofs
open Go.Shelf
def Try.laysAp_ren : Go.Shelf.Ren := ⟨fun | 11 => 45 | n => n, fun | 24 => 29 | 26 => 3 | 28 => 67 | 0 => 0 | 33 => 83 | 4 => 4 | n => n, fun | n => n⟩
theorem Try.laysAp : Go.Proofs.SlLaysZI.n11 Try.prog Try.laysAp_ren := {
  mixed := by kernel_rfl
  f11 := ⟨Try.f45.name, by decide, Try.func45.trans (congrArg some (by kernel_rfl))⟩
  t0 := Try.underlying0
  a0 := Try.isAgg0
  z0 := Try.sizeOf0
  v0 := Try.zeroValue0
  t24 := Try.underlying29
  a24 := Try.isAgg29
  z24 := Try.sizeOf29
  v24 := Try.zeroValue29
  t26 := Try.underlying3
  a26 := Try.isAgg3
  z26 := Try.sizeOf3
  v26 := Try.zeroValue3
  t28 := Try.underlying67
  a28 := Try.isAgg67
  z28 := Try.sizeOf67
  v28 := Try.zeroValue67
  i26 := by kernel_rfl }
end Go.Proofs
