/- Several texts laid into one: The builder's WriteString, laid by hand: for seats that have neither strings.Repeat nor strings.Join; Several texts laid into one: Contracts of the builder's WriteString and String; The contract of the closure of edit.write: a word, and a number;; -/
import Derived.Test.YtcemlhbfemenpaaGreatDoorLmbY
import Derived.Test.YtcemlhbfemenpaaGreatDoorShBld
set_option maxHeartbeats 4000000
set_option maxRecDepth 100000
namespace Go.Proofs.YtcemlhbfemenpaaGreatDoor
open Go.Shelf
def Zfw:Go.Shelf.Ren:=⟨fun|166=>69|240=>102|276=>140|n=>n,fun|0=>0|3=>3|4=>4|5=>5|9=>9|20=>20|37=>101|70=>100|72=>103|75=>105|80=>110|164=>167|n=>n,fun|n=>n⟩
theorem wri_lays:Go.Proofs.Lays.n166 Tryz.prog Zfw where
 mixed:=by kernel_rfl
 f166:=Tryz.func69.trans (congrArg some (by kernel_rfl))
 f240:=Tryz.func102.trans (congrArg some (by kernel_rfl))
 f276:=Tryz.func140.trans (congrArg some (by kernel_rfl))
 t0:=Tryz.underlying0
 a0:=Tryz.isAgg0
 z0:=Tryz.sizeOf0
 v0:=Tryz.zeroValue0
 t3:=Tryz.underlying3
 a3:=Tryz.isAgg3
 z3:=Tryz.sizeOf3
 v3:=Tryz.zeroValue3
 t4:=Tryz.underlying4
 a4:=Tryz.isAgg4
 z4:=Tryz.sizeOf4
 v4:=Tryz.zeroValue4
 t9:=Tryz.underlying9
 a9:=Tryz.isAgg9
 z9:=Tryz.sizeOf9
 v9:=Tryz.zeroValue9
 t20:=Tryz.underlying20
 a20:=Tryz.isAgg20
 z20:=Tryz.sizeOf20
 v20:=Tryz.zeroValue20
 t37:=Tryz.underlying101
 a37:=Tryz.isAgg101
 z37:=Tryz.sizeOf101
 v37:=Tryz.zeroValue101
 t70:=Tryz.underlying100
 a70:=Tryz.isAgg100
 z70:=Tryz.sizeOf100
 v70:=Tryz.zeroValue100
 t72:=Tryz.underlying103
 a72:=Tryz.isAgg103
 z72:=Tryz.sizeOf103
 v72:=Tryz.zeroValue103
 t75:=Tryz.underlying105
 a75:=Tryz.isAgg105
 z75:=Tryz.sizeOf105
 v75:=Tryz.zeroValue105
 t164:=Tryz.underlying167
 a164:=Tryz.isAgg167
 z164:=Tryz.sizeOf167
 v164:=Tryz.zeroValue167
end Go.Proofs.YtcemlhbfemenpaaGreatDoor
namespace Go.Proofs.YtcemlhbfemenpaaGreatDoor
open Go.RowKit Go.Dw
theorem ext169:Builder.Extra Tryz.prog Tryz.lays169_ren where
 sizeBuilder:=by kernel_rfl
 liesBuilder:=by kernel_rfl
 t5:=Tryz.underlying5
 a5:=Tryz.isAgg5
 z5:=Tryz.sizeOf5
 v5:=Tryz.zeroValue5
 infoByte:=by kernel_rfl
 cellsByte:=by kernel_rfl
 sizeByte:=by kernel_rfl
 neB5:=by decide
def bl (s:ByteArray):List UInt8:=s.data.toList
def mkB (l:List UInt8):ByteArray:=⟨l.toArray⟩
theorem bl_mk (l:List UInt8):bl (mkB l)=l:=by simp[bl,mkB]
theorem bl_len (s:ByteArray):(bl s).length=s.size:=by unfold bl;rw[Zo];rfl
theorem mkB_size (l:List UInt8):(mkB l).size=l.length:=by show l.toArray.size=_;simp
def IsB (B b:Nat)(l:List UInt8)(w:World):Prop:=Lib.IsBuilderF 103 5 B b (Lib.byteCells l) w
theorem Zfx (w:World):IsB w.heap.size w.heap.size [] (w.alloc (.cells #[.pointer none,.slice none 0 0] 103)):=Lib.IsBuilderF.of (Lib.fresh_isBuilder _ _ w)
theorem Z33 {T e:TypeId}{B b:Nat}{p:Value}{bs:List Value}{w w':World}(h:Lib.BuilderAtF T e B b p bs w)(hb:Below w.heap.size w w'):Lib.BuilderAtF T e B b p bs w':=by
 have hlt:=h.lt;obtain⟨h1,v,h2,h3,h4⟩:=h;refine⟨h1,v, ?_,h3.kept (row:=none) ⟨hb.os,hb.tape,hb.output,hb.size,fun j hj _=>hb.block j hj⟩ (by cases hv:v.ownBlock<;>simp),h4⟩;rw[hb.block b hlt];exact h2
theorem IsB.below {B b:Nat}{l:List UInt8}{w w':World}(h:IsB B b l w)(hb:Below w.heap.size w w'):IsB B b l w':=
 h.elim (fun x=> .inl (Z33 x hb)) (fun x=> .inr (Z33 x hb))
theorem IsB.lt {B b:Nat}{l:List UInt8}{w:World}(h:IsB B b l w):b<w.heap.size:=h.elim (fun x=>x.lt) (fun x=>x.lt)
def Oth (b:Nat)(w w':World):Prop:=Lib.OthersKept 5 (some b) w w'
theorem Oth.blk {b g:Nat}{t:TypeId}{cs:List Value}{w w':World}(h:Oth b w w')(hk:Blk w g t cs)(hg:g≠b)(ht:t≠5):Blk w' g t cs:=
 h g _ hk (by simpa using hg) (fun c fz e=>by injection e with _ e2 _;exact ht e2)
theorem ext166:Builder.Extra Tryz.prog Zfw where
 sizeBuilder:=by kernel_rfl
 liesBuilder:=by kernel_rfl
 t5:=Tryz.underlying5
 a5:=Tryz.isAgg5
 z5:=Tryz.sizeOf5
 v5:=Tryz.zeroValue5
 infoByte:=by kernel_rfl
 cellsByte:=by kernel_rfl
 sizeByte:=by kernel_rfl
 neB5:=by decide
theorem Zci (B b:Nat)(l:List UInt8)(s:ByteArray)(w:World)(h:IsB B b l w)(hl:l.length+s.size≤140737488355328)(hB:B≤w.heap.size):
  Calls Tryz.prog 69 #[.pointer (some ⟨b,0,none⟩),.string s] w fun e w'=>e= .returned (.tuple #[.int .i64 s.size,.nilIface])∧IsB B b (l++bl s) w'∧Below B w w'∧Oth b w w':=
 (Any.Builder_WriteString_k wri_lays ext166 B b (Lib.byteCells l) s w h (by rw[Lib.byteCells_length];exact hl) hB).mono fun _ _ ⟨h1,h2,h3,h4⟩=>⟨h1,.inr (by
  have:Lib.byteCells (l++bl s)=Lib.byteCells l++Lib.strCells s:=by simp[Lib.byteCells,Lib.strCells,bl]
  rw[this];exact h2),h3,h4⟩
theorem Z9u (B b:Nat)(l:List UInt8)(w:World)(h:IsB B b l w)(hB:B≤w.heap.size):
  Calls Tryz.prog 71 #[.pointer (some ⟨b,0,none⟩)] w fun e w'=>e= .returned (.string (mkB l))∧Below B w w':=
 (Any.Builder_String_any_k Tryz.lays169 ext169 B b l w h hB).mono fun _ _ ⟨h1,_,h3,_⟩=>⟨h1,h3⟩
theorem Zfy (m:Int)(w:World)(hm:Z0l m)(hp:HasPow w):
  Calls Tryz.prog 70 #[.int .i64 m] w fun e w'=>e= .returned (.string (mkB (Lib.itoa m)))∧Below w.heap.size w w':=Z8s m w hm hp
def WI (w1:World)(T:List UInt8)(W:World):Prop:=IsB w1.heap.size w1.heap.size T W∧Below w1.heap.size w1 W
theorem WI.gq {w1 W W':World}{T:List UInt8}(h:WI w1 T W)(g:Gq W W'):WI w1 T W':=⟨h.1.below g,h.2.trans (Below.mono g h.2.size)⟩
theorem WI.alloc {w1 W:World}{T:List UInt8}(h:WI w1 T W)(o:Obj):WI w1 T (W.alloc o):=h.gq ((Gq.refl W).alloc o)
theorem WI.bel {w1 W:World}{T:List UInt8}(h:WI w1 T W):Below w1.heap.size w1 W:=h.2
def Kp (b:Nat)(W W':World):Prop:=∀g t cs,Blk W g t cs→g≠b→t≠5→Blk W' g t cs
theorem Kp.refl (b:Nat)(W:World):Kp b W W:=fun _ _ _ h _ _=>h
theorem Kp.trans {b:Nat}{U V W:World}(h:Kp b U V)(k:Kp b V W):Kp b U W:=fun g t cs h1 h2 h3=>k g t cs (h g t cs h1 h2 h3) h2 h3
theorem Kp.gq {b:Nat}{W W':World}(h:Gq W W'):Kp b W W':=fun _ _ _ h1 _ _=>h1.same (Same.of_below (S:=fun _=>True) h) trivial
theorem Kp.oth {b:Nat}{W W':World}(h:Oth b W W'):Kp b W W':=fun _ _ _ h1 h2 h3=>h.blk h1 h2 h3
def WrR (w1:World)(T:List UInt8)(W:World)(e:Ending)(W':World):Prop:=(∃v,e= .returned v)∧WI w1 T W'∧Kp w1.heap.size W W'
theorem Z68 (w1:World)(T:List UInt8)(s:ByteArray)(W:World)(h:WI w1 T W)(hl:T.length+s.size≤1000000000):
  Calls Tryz.prog 69 #[.pointer (some ⟨w1.heap.size,0,none⟩),.string s] W (WrR w1 (T++bl s) W):=
 (Zci w1.heap.size w1.heap.size T s W h.1 (by omega) h.2.size).mono fun _ _ ⟨h1,h2,h3,h4⟩=>⟨⟨_,h1⟩,⟨h2,h.2.trans h3⟩,Kp.oth h4⟩
theorem Zfz (w1:World)(T:List UInt8)(s:ByteArray)(n:Int)(W:World)(h:WI w1 T W)(hl:T.length+s.size≤900000000)(hn:Z0l n)(hp:HasPow w1):
  Calls Tryz.prog 68 #[.string s,.int .i64 n,.pointer (some ⟨w1.heap.size,0,none⟩)] W (WrR w1 (T++bl s++Lib.itoa n) W):=by
 have HW1:=Za (Z68 w1 T s W h (by omega));have HIT:Hid (∀V,WI w1 (T++bl s) V→Calls Tryz.prog 70 #[.int .i64 n] V fun e V'=>e= .returned (.string (mkB (Lib.itoa n)))∧Gq V V'):=fun V hV=>Zfy n V hn (hp.below hV.2);have HW2:Hid (∀V,WI w1 (T++bl s) V→Calls Tryz.prog 69 #[.pointer (some ⟨w1.heap.size,0,none⟩),.string (mkB (Lib.itoa n))] V (WrR w1 (T++bl s++Lib.itoa n) V)):=fun V hV=>by have h1:=Z68 w1 (T++bl s) (mkB (Lib.itoa n)) V hV (by rw[Zj,bl_len,mkB_size];have:=Z95 n hn;omega);rw[bl_mk]at h1;exact h1
 clear h hl hn hp;generalize T++bl s++Lib.itoa n=T2 at*;generalize T++bl s=T1 at*;generalize mkB (Lib.itoa n)=ns at*;go_enter Tryz.func68,Tryz.ntmps68;go_wp2_with fail;refine HW1.o.mono ?_;rintro e V1 ⟨⟨v1,rfl⟩,hv1,hk1⟩;have HV1:=Za hv1;have HK1:=Za hk1;clear hv1 hk1;go_wp2_with fail;refine(HIT.o _ HV1.o).mono ?_;rintro e V2 ⟨rfl,hg2⟩;have HV2:=Za (HV1.o.gq hg2);have HK2:=Za (HK1.o.trans (Kp.gq hg2));clear hg2;go_wp2_with fail;refine(HW2.o _ HV2.o).mono ?_;rintro e V3 ⟨⟨v3,rfl⟩,hv3,hk3⟩;have HV3:=Za hv3;have HK3:=Za (HK2.o.trans hk3);clear hv3 hk3;go_wp2_with fail
 go_end0
 exact⟨⟨_,rfl⟩,HV3.o,HK3.o⟩
end Go.Proofs.YtcemlhbfemenpaaGreatDoor
