/-
  DERIVED:THE SHELF's CONTRACTS AT THIS DUMP,IN PLAIN WORDS (tools/lay-plain.mjs out of 'YtcemlhbfemenpaaGreatDoorShelf.lean',which tools/lay-shelf.mjs wrote):THE SAME DECLARATIONS UNDER THE SAME NAMES:'import','namespace','open','def','theorem' AND NOTHING ELSE:no command of the shelf's:FOR A HAND-IN. Each laying:the table of numbers ('.._ren') and one theorem,a field a fact of the dump's own or the kernel's comparison;each contract:ONE APPLICATION.
-/
import Derived.Shelf.Strings.SlTrimAscii
import Derived.Test.YtcemlhbfemenpaaGreatDoorProg
namespace Go.Proofs
open Go.Shelf
def Tryz.lays160_ren:Go.Shelf.Ren:=⟨fun|160=>72|232=>105|231=>104|227=>106|234=>108|233=>107|236=>110|235=>109|228=>142|271=>145|151=>144|197=>143|120=>173|152=>172|260=>171|137=>203|119=>204|224=>205|225=>206|217=>218|266=>222|n=>n,fun|9=>9|4=>4|3=>3|5=>5|117=>140|116=>139|0=>0|124=>143|21=>21|105=>171|46=>166|119=>223|139=>226|138=>225|n=>n,fun|3=>2|4=>3|n=>n⟩
theorem Tryz.lays160:Go.Proofs.Lays.n160 Tryz.prog Tryz.lays160_ren:= {
  mixed:=by kernel_rfl
  f119:=Tryz.func204.trans (congrArg some (by kernel_rfl))
  f120:=Tryz.func173.trans (congrArg some (by kernel_rfl))
  f137:=Tryz.func203.trans (congrArg some (by kernel_rfl))
  f151:=Tryz.func144.trans (congrArg some (by kernel_rfl))
  f152:=Tryz.func172.trans (congrArg some (by kernel_rfl))
  f160:=Tryz.func72.trans (congrArg some (by kernel_rfl))
  f197:=Tryz.func143.trans (congrArg some (by kernel_rfl))
  f217:=Tryz.func218.trans (congrArg some (by kernel_rfl))
  f224:=Tryz.func205.trans (congrArg some (by kernel_rfl))
  f225:=Tryz.func206.trans (congrArg some (by kernel_rfl))
  f227:=Tryz.func106.trans (congrArg some (by kernel_rfl))
  f228:=Tryz.func142.trans (congrArg some (by kernel_rfl))
  f231:=Tryz.func104.trans (congrArg some (by kernel_rfl))
  f232:=Tryz.func105.trans (congrArg some (by kernel_rfl))
  f233:=Tryz.func107.trans (congrArg some (by kernel_rfl))
  f234:=Tryz.func108.trans (congrArg some (by kernel_rfl))
  f235:=Tryz.func109.trans (congrArg some (by kernel_rfl))
  f236:=Tryz.func110.trans (congrArg some (by kernel_rfl))
  f260:=Tryz.func171.trans (congrArg some (by kernel_rfl))
  f266:=Tryz.func222.trans (congrArg some (by kernel_rfl))
  f271:=Tryz.func145.trans (congrArg some (by kernel_rfl))
  t0:=Tryz.underlying0
  a0:=Tryz.isAgg0
  z0:=Tryz.sizeOf0
  v0:=Tryz.zeroValue0
  t3:=Tryz.underlying3
  a3:=Tryz.isAgg3
  z3:=Tryz.sizeOf3
  v3:=Tryz.zeroValue3
  t4:=Tryz.underlying4
  a4:=Tryz.isAgg4
  z4:=Tryz.sizeOf4
  v4:=Tryz.zeroValue4
  t5:=Tryz.underlying5
  a5:=Tryz.isAgg5
  z5:=Tryz.sizeOf5
  v5:=Tryz.zeroValue5
  t9:=Tryz.underlying9
  a9:=Tryz.isAgg9
  z9:=Tryz.sizeOf9
  v9:=Tryz.zeroValue9
  t21:=Tryz.underlying21
  a21:=Tryz.isAgg21
  z21:=Tryz.sizeOf21
  v21:=Tryz.zeroValue21
  t46:=Tryz.underlying166
  a46:=Tryz.isAgg166
  z46:=Tryz.sizeOf166
  v46:=Tryz.zeroValue166
  t105:=Tryz.underlying171
  a105:=Tryz.isAgg171
  z105:=Tryz.sizeOf171
  v105:=Tryz.zeroValue171
  t116:=Tryz.underlying139
  a116:=Tryz.isAgg139
  z116:=Tryz.sizeOf139
  t117:=Tryz.underlying140
  a117:=Tryz.isAgg140
  z117:=Tryz.sizeOf140
  v117:=Tryz.zeroValue140
  t119:=Tryz.underlying223
  a119:=Tryz.isAgg223
  z119:=Tryz.sizeOf223
  t124:=Tryz.underlying143
  a124:=Tryz.isAgg143
  z124:=Tryz.sizeOf143
  v124:=Tryz.zeroValue143
  t138:=Tryz.underlying225
  a138:=Tryz.isAgg225
  z138:=Tryz.sizeOf225
  v138:=Tryz.zeroValue225
  t139:=Tryz.underlying226
  a139:=Tryz.isAgg226
  z139:=Tryz.sizeOf226
  v139:=Tryz.zeroValue226
  g3:=by kernel_rfl
  g4:=by kernel_rfl}
end Go.Proofs
