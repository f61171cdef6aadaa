/-
  DERIVED:THE SHELF's CONTRACTS AT THIS DUMP,IN PLAIN WORDS (tools/lay-plain.mjs out of 'YtcemlhbfemenpaaGreatDoorShSrt.lean',which tools/lay-shelf.mjs wrote):THE SAME DECLARATIONS UNDER THE SAME NAMES:'import','namespace','open','def','theorem' AND NOTHING ELSE:no command of the shelf's:FOR A HAND-IN. Each laying:the table of numbers ('.._ren') and one theorem,a field a fact of the dump's own or the kernel's comparison;each contract:ONE APPLICATION.
-/
import Derived.Shelf.Sort.Plain
import Derived.Shelf.Slices.In.SortNone
import Derived.Shelf.Slices.CompactI
import Derived.Ground.NamesProg
import Derived.Ground.Names2Prog
import Derived.Test.YtcemlhbfemenpaaGreatDoorProg
namespace Go.Proofs
open Go.Shelf
def Tryz.lays189_ren:Go.Shelf.Ren:=⟨fun|189=>121|125=>157|257=>156|128=>190|129=>191|294=>181|295=>182|296=>183|297=>184|298=>185|299=>186|216=>187|300=>188|301=>189|328=>207|329=>208|330=>209|331=>210|332=>211|215=>97|343=>219|n=>n,fun|28=>65|3=>3|46=>166|0=>0|51=>177|53=>163|4=>4|183=>206|182=>205|131=>144|5=>5|9=>9|218=>229|222=>233|228=>242|229=>243|n=>n,fun|n=>n⟩
theorem Tryz.lays189:Go.Proofs.Lays.n189 Tryz.prog Tryz.lays189_ren:= {
  mixed:=by kernel_rfl
  f125:=Tryz.func157.trans (congrArg some (by kernel_rfl))
  f128:=Tryz.func190.trans (congrArg some (by kernel_rfl))
  f129:=Tryz.func191.trans (congrArg some (by kernel_rfl))
  f189:=Tryz.func121.trans (congrArg some (by kernel_rfl))
  f215:=Tryz.func97.trans (congrArg some (by kernel_rfl))
  f216:=Tryz.func187.trans (congrArg some (by kernel_rfl))
  f257:=Tryz.func156.trans (congrArg some (by kernel_rfl))
  f294:=Tryz.func181.trans (congrArg some (by kernel_rfl))
  f295:=Tryz.func182.trans (congrArg some (by kernel_rfl))
  f296:=Tryz.func183.trans (congrArg some (by kernel_rfl))
  f297:=Tryz.func184.trans (congrArg some (by kernel_rfl))
  f298:=Tryz.func185.trans (congrArg some (by kernel_rfl))
  f299:=Tryz.func186.trans (congrArg some (by kernel_rfl))
  f300:=Tryz.func188.trans (congrArg some (by kernel_rfl))
  f301:=Tryz.func189.trans (congrArg some (by kernel_rfl))
  f328:=Tryz.func207.trans (congrArg some (by kernel_rfl))
  f329:=Tryz.func208.trans (congrArg some (by kernel_rfl))
  f330:=Tryz.func209.trans (congrArg some (by kernel_rfl))
  f331:=Tryz.func210.trans (congrArg some (by kernel_rfl))
  f332:=Tryz.func211.trans (congrArg some (by kernel_rfl))
  f343:=Tryz.func219.trans (congrArg some (by kernel_rfl))
  t0:=Tryz.underlying0
  a0:=Tryz.isAgg0
  z0:=Tryz.sizeOf0
  v0:=Tryz.zeroValue0
  t3:=Tryz.underlying3
  a3:=Tryz.isAgg3
  z3:=Tryz.sizeOf3
  v3:=Tryz.zeroValue3
  t4:=Tryz.underlying4
  a4:=Tryz.isAgg4
  z4:=Tryz.sizeOf4
  v4:=Tryz.zeroValue4
  t5:=Tryz.underlying5
  a5:=Tryz.isAgg5
  z5:=Tryz.sizeOf5
  v5:=Tryz.zeroValue5
  t9:=Tryz.underlying9
  a9:=Tryz.isAgg9
  z9:=Tryz.sizeOf9
  v9:=Tryz.zeroValue9
  t28:=Tryz.underlying65
  a28:=Tryz.isAgg65
  z28:=Tryz.sizeOf65
  v28:=Tryz.zeroValue65
  t46:=Tryz.underlying166
  a46:=Tryz.isAgg166
  z46:=Tryz.sizeOf166
  v46:=Tryz.zeroValue166
  t51:=Tryz.underlying177
  a51:=Tryz.isAgg177
  z51:=Tryz.sizeOf177
  v51:=Tryz.zeroValue177
  t53:=Tryz.underlying163
  a53:=Tryz.isAgg163
  z53:=Tryz.sizeOf163
  v53:=Tryz.zeroValue163
  t131:=Tryz.underlying144
  a131:=Tryz.isAgg144
  z131:=Tryz.sizeOf144
  v131:=Tryz.zeroValue144
  t182:=Tryz.underlying205
  a182:=Tryz.isAgg205
  z182:=Tryz.sizeOf205
  v182:=Tryz.zeroValue205
  t183:=Tryz.underlying206
  a183:=Tryz.isAgg206
  z183:=Tryz.sizeOf206
  v183:=Tryz.zeroValue206
  t218:=Tryz.underlying229
  a218:=Tryz.isAgg229
  z218:=Tryz.sizeOf229
  v218:=Tryz.zeroValue229
  t222:=Tryz.underlying233
  a222:=Tryz.isAgg233
  z222:=Tryz.sizeOf233
  v222:=Tryz.zeroValue233
  t228:=Tryz.underlying242
  a228:=Tryz.isAgg242
  z228:=Tryz.sizeOf242
  v228:=Tryz.zeroValue242
  t229:=Tryz.underlying243
  a229:=Tryz.isAgg243
  z229:=Tryz.sizeOf243
  v229:=Tryz.zeroValue243}
def Tryz.lays2_20_ren:Go.Shelf.Ren:=⟨fun|20=>122|n=>n,fun|22=>65|3=>3|4=>4|0=>0|n=>n,fun|n=>n⟩
theorem Tryz.lays2_20:Go.Proofs.Lays2.n20 Tryz.prog Tryz.lays2_20_ren:= {
  mixed:=by kernel_rfl
  f20:=Tryz.func122.trans (congrArg some (by kernel_rfl))
  t0:=Tryz.underlying0
  a0:=Tryz.isAgg0
  z0:=Tryz.sizeOf0
  v0:=Tryz.zeroValue0
  t3:=Tryz.underlying3
  a3:=Tryz.isAgg3
  z3:=Tryz.sizeOf3
  v3:=Tryz.zeroValue3
  t4:=Tryz.underlying4
  a4:=Tryz.isAgg4
  z4:=Tryz.sizeOf4
  v4:=Tryz.zeroValue4
  t22:=Tryz.underlying65
  a22:=Tryz.isAgg65
  z22:=Tryz.sizeOf65
  v22:=Tryz.zeroValue65
  i3:=by kernel_rfl}
end Go.Proofs
