/-
  DERIVED:THE SHELF's CONTRACTS AT THIS DUMP,IN PLAIN WORDS (tools/lay-plain.mjs out of 'YtcemlhbfemenpaaGreatDoorShBld.lean',which tools/lay-shelf.mjs wrote):THE SAME DECLARATIONS UNDER THE SAME NAMES:'import','namespace','open','def','theorem' AND NOTHING ELSE:no command of the shelf's:FOR A HAND-IN. Each laying:the table of numbers ('.._ren') and one theorem,a field a fact of the dump's own or the kernel's comparison;each contract:ONE APPLICATION.
-/
import Derived.Shelf.Strings.OnBuilder
import Derived.Shelf.Strings.BuilderK
import Derived.Test.YtcemlhbfemenpaaGreatDoorProg
namespace Go.Proofs
open Go.Shelf
def Tryz.lays169_ren:Go.Shelf.Ren:=⟨fun|169=>71|n=>n,fun|70=>100|9=>9|0=>0|72=>103|37=>101|127=>136|3=>3|5=>5|n=>n,fun|n=>n⟩
theorem Tryz.lays169:Go.Proofs.Lays.n169 Tryz.prog Tryz.lays169_ren:= {
  mixed:=by kernel_rfl
  f169:=Tryz.func71.trans (congrArg some (by kernel_rfl))
  t0:=Tryz.underlying0
  a0:=Tryz.isAgg0
  z0:=Tryz.sizeOf0
  v0:=Tryz.zeroValue0
  t3:=Tryz.underlying3
  a3:=Tryz.isAgg3
  z3:=Tryz.sizeOf3
  v3:=Tryz.zeroValue3
  t9:=Tryz.underlying9
  a9:=Tryz.isAgg9
  z9:=Tryz.sizeOf9
  v9:=Tryz.zeroValue9
  t37:=Tryz.underlying101
  a37:=Tryz.isAgg101
  z37:=Tryz.sizeOf101
  v37:=Tryz.zeroValue101
  t70:=Tryz.underlying100
  a70:=Tryz.isAgg100
  z70:=Tryz.sizeOf100
  v70:=Tryz.zeroValue100
  t72:=Tryz.underlying103
  a72:=Tryz.isAgg103
  z72:=Tryz.sizeOf103
  v72:=Tryz.zeroValue103
  t127:=Tryz.underlying136
  a127:=Tryz.isAgg136
  z127:=Tryz.sizeOf136
  v127:=Tryz.zeroValue136}
end Go.Proofs
