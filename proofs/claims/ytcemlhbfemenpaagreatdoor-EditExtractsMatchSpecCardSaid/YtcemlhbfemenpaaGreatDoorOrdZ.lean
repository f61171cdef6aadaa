/- Several texts laid into one: The contract of edit.compare, in worlds with new blocks alone; The contract of the reference's Order; -/
import Derived.Test.YtcemlhbfemenpaaGreatDoorMisZ
set_option maxHeartbeats 8000000
set_option maxRecDepth 100000
namespace Go.Proofs.YtcemlhbfemenpaaGreatDoor
open Go.RowKit Go.Dw
attribute [local go_sem ↓] Go.wp_at_zero Go.wp_at_succ
theorem Zc2 (x y:CliM)(w:World):
  Calls Tryz.prog 33 #[x.v,y.v] w fun e w'=>e= .returned (.int .i64 (Z14 x.x y.x))∧Gr w w':=by
 obtain⟨xm,xc,xf,xt,xa,xl,⟨xA,xk,xe⟩⟩:=x;obtain⟨ym,yc,yf,yt,ya,yl,⟨yA,yk,ye⟩⟩:=y;unfold CliM.v;simp only[Slc.v];obtain⟨r,hr⟩:∃r,orL [Z55 xt yt,Z55 xa ya,Z71 xm ym,Z55 xc yc,Z55 xf yf,Z55 xl yl]=r:=⟨_,rfl⟩;have HR:Hid (Z14 (CliM.x ⟨xm,xc,xf,xt,xa,xl,⟨xA,xk,xe⟩⟩) (CliM.x ⟨ym,yc,yf,yt,ya,yl,⟨yA,yk,ye⟩⟩)=r):=by show _=_;rw[←hr,Ze2];rfl
 have H1:=Za (fun W=>Z29 xt yt W);have H2:=Za (fun W=>Z29 xa ya W);have H3:=Za (fun W=>Z6m xm ym W);have H4:=Za (fun W=>Z29 xc yc W);have H5:=Za (fun W=>Z29 xf yf W);have H6:=Za (fun W=>Z29 xl yl W);obtain⟨r1,h1⟩:∃v,Z55 xt yt=v:=⟨_,rfl⟩;obtain⟨r2,h2⟩:∃v,Z55 xa ya=v:=⟨_,rfl⟩;obtain⟨r3,h3⟩:∃v,Z71 xm ym=v:=⟨_,rfl⟩;obtain⟨r4,h4⟩:∃v,Z55 xc yc=v:=⟨_,rfl⟩;obtain⟨r5,h5⟩:∃v,Z55 xf yf=v:=⟨_,rfl⟩;obtain⟨r6,h6⟩:∃v,Z55 xl yl=v:=⟨_,rfl⟩;rw[h1,h2,h3,h4,h5,h6]at hr;simp only[h1]at H1;simp only[h2]at H2;simp only[h3]at H3;simp only[h4]at H4;simp only[h5]at H5;simp only[h6]at H6;have HO:Hid (∀(W:World) (b:Nat),Blk W b 3 [.int .i64 r1,.int .i64 r2,.int .i64 r3,.int .i64 r4,.int .i64 r5,.int .i64 r6]→Calls Tryz.prog 57 #[.slice (some ⟨b,0,none⟩) 6 6] W fun e w'=>e= .returned (.int .i64 r)∧W=w'):=fun W b hb=>by rw[←hr];refine or_any b 0 6 [r1,r2,r3,r4,r5,r6] W (by simp) fun j hj=> ?_;simp only[List.length_cons,List.length_nil]at hj;rw[Nat.zero_add,hb.cell j];rcases(by omega:j=0∨j=1∨j=2∨j=3∨j=4∨j=5)with rfl|rfl|rfl|rfl|rfl|rfl<;>rfl
 generalize (xe.length:Nat)=xn at*;generalize (ye.length:Nat)=yn at*;obtain⟨w0,hw0⟩:∃w0,w0=(w.alloc (.cells #[.string xm,.int .i64 xc,.int .i64 xf,.int .i64 xt,.int .i64 xa,.int .i64 xl,.slice xA xn xk] 39)).alloc (.cells #[.string ym,.int .i64 yc,.int .i64 yf,.int .i64 yt,.int .i64 ya,.int .i64 yl,.slice yA yn yk] 39):=⟨_,rfl⟩;have HB0:Hid (Gr w w0):=by rw[hw0];exact((Grw.refl _).alloc _).alloc _
 have HK:Hid (Blk w0 w.heap.size 39 [.string xm,.int .i64 xc,.int .i64 xf,.int .i64 xt,.int .i64 xa,.int .i64 xl,.slice xA xn xk]∧Blk w0 (w.heap.size+1) 39 [.string ym,.int .i64 yc,.int .i64 yf,.int .i64 yt,.int .i64 ya,.int .i64 yl,.slice yA yn yk]):=by have k1:=Blk.new w 39 [.string xm,.int .i64 xc,.int .i64 xf,.int .i64 xt,.int .i64 xa,.int .i64 xl,.slice xA xn xk];have k2:=Blk.new (w.alloc (.cells #[.string xm,.int .i64 xc,.int .i64 xf,.int .i64 xt,.int .i64 xa,.int .i64 xl,.slice xA xn xk] 39)) 39 [.string ym,.int .i64 yc,.int .i64 yf,.int .i64 yt,.int .i64 ya,.int .i64 yl,.slice yA yn yk];have e2:(w.alloc (.cells #[.string xm,.int .i64 xc,.int .i64 xf,.int .i64 xt,.int .i64 xa,.int .i64 xl,.slice xA xn xk] 39)).heap.size=w.heap.size+1:=(by simp);rw[e2]at k2;rw[hw0];exact⟨k1.same (Same.of_below (S:=fun _=>True) ((Gq.refl _).alloc _)) trivial,k2⟩
 have HS:Hid (∀W,Gr w0 W→W.cell? ⟨w.heap.size,0,none⟩=some (.string xm)∧W.cell? ⟨w.heap.size,1,none⟩=some (.int .i64 xc)∧W.cell? ⟨w.heap.size,2,none⟩=some (.int .i64 xf)∧W.cell? ⟨w.heap.size,3,none⟩=some (.int .i64 xt)∧W.cell? ⟨w.heap.size,4,none⟩=some (.int .i64 xa)∧W.cell? ⟨w.heap.size,5,none⟩=some (.int .i64 xl)∧
   W.cell? ⟨w.heap.size+1,0,none⟩=some (.string ym)∧W.cell? ⟨w.heap.size+1,1,none⟩=some (.int .i64 yc)∧W.cell? ⟨w.heap.size+1,2,none⟩=some (.int .i64 yf)∧W.cell? ⟨w.heap.size+1,3,none⟩=some (.int .i64 yt)∧W.cell? ⟨w.heap.size+1,4,none⟩=some (.int .i64 ya)∧W.cell? ⟨w.heap.size+1,5,none⟩=some (.int .i64 yl)∧Gr w0 W):=fun W hW=>by
  have k1:=HK.o.1.same (Same.of_below (S:=fun _=>True) (Grw.below hW)) trivial;have k2:=HK.o.2.same (Same.of_below (S:=fun _=>True) (Grw.below hW)) trivial;exact⟨k1.cell 0,k1.cell 1,k1.cell 2,k1.cell 3,k1.cell 4,k1.cell 5,k2.cell 0,k2.cell 1,k2.cell 2,k2.cell 3,k2.cell 4,k2.cell 5,hW⟩
 have hBR:Gr w0 w0:=Grw.refl _;have hBD:Gr w0 w0.drew:=(Grw.refl _).drew;have HW0:=Za hw0;clear hw0 h1 h2 h3 h4 h5 h6 hr;go_enter Tryz.func33,Tryz.ntmps33;go_wp2_with fail;rw[←HW0.o]
 go_region_held3 (fun W=>W.cell? ⟨w.heap.size,0,none⟩=some (.string xm)∧W.cell? ⟨w.heap.size,1,none⟩=some (.int .i64 xc)∧W.cell? ⟨w.heap.size,2,none⟩=some (.int .i64 xf)∧W.cell? ⟨w.heap.size,3,none⟩=some (.int .i64 xt)∧W.cell? ⟨w.heap.size,4,none⟩=some (.int .i64 xa)∧W.cell? ⟨w.heap.size,5,none⟩=some (.int .i64 xl)∧
   W.cell? ⟨w.heap.size+1,0,none⟩=some (.string ym)∧W.cell? ⟨w.heap.size+1,1,none⟩=some (.int .i64 yc)∧W.cell? ⟨w.heap.size+1,2,none⟩=some (.int .i64 yf)∧W.cell? ⟨w.heap.size+1,3,none⟩=some (.int .i64 yt)∧W.cell? ⟨w.heap.size+1,4,none⟩=some (.int .i64 ya)∧W.cell? ⟨w.heap.size+1,5,none⟩=some (.int .i64 yl)∧Gr w0 W)
  (first|exact HS.o _ hBD|exact HS.o _ hBR|exact HS.o _ (Grw.alloc hBD _)|exact HS.o _ (Grw.alloc hBR _)|exact HS.o _ (Grw.drew (Grw.alloc hBR _)))
  (first|(go_at_call 58;with_reducible refine(H1.o _).mono ?_;rintro e w' ⟨rfl,rfl⟩)|(go_at_call 58;with_reducible refine(H2.o _).mono ?_;rintro e w' ⟨rfl,rfl⟩)|(go_at_call 59;with_reducible refine(H3.o _).mono ?_;rintro e w' ⟨rfl,rfl⟩)|(go_at_call 58;with_reducible refine(H4.o _).mono ?_;rintro e w' ⟨rfl,rfl⟩)|(go_at_call 58;with_reducible refine(H5.o _).mono ?_;rintro e w' ⟨rfl,rfl⟩)|(go_at_call 58;with_reducible refine(H6.o _).mono ?_;rintro e w' ⟨rfl,rfl⟩)|(go_at_call 57;refine(HO.o _ _ (by first|exact Blk.new w0 _ _|exact Blk.new w0.drew _ _)).mono ?_;rintro e w' ⟨rfl,rfl⟩))
 all_goals
  go_wp2_with fail;go_ret;exact⟨by rw[HR.o];rfl,Grw.trans HB0.o (by first|exact(Grw.alloc hBR _)|exact(Grw.alloc hBR _).drew|exact(Grw.alloc hBD _))⟩
end Go.Proofs.YtcemlhbfemenpaaGreatDoor
namespace Go.Proofs.YtcemlhbfemenpaaGreatDoor
open Go.RowKit Go.Dw
theorem Ze6 (a b:ByteArray):Op.bytesLess a.toList b.toList=decide (sLt a b):=by
 rw[ByteArray.toList_eq,ByteArray.toList_eq];show bL a.data.toList b.data.toList=decide (bL a.data.toList b.data.toList=true);cases bL a.data.toList b.data.toList<;>rfl
theorem Z8f (b:Bool)(w:World):Calls Tryz.prog 67 #[.bool b] w fun e w'=>e= .returned (.int .i64 (if b=true then -1 else 1))∧w=w':=by
 cases b
 · go_enter Tryz.func67,Tryz.ntmps67;go_wp2_with fail;go_ret;exact⟨rfl,rfl⟩
 · go_enter Tryz.func67,Tryz.ntmps67;go_wp2_with fail;go_ret;exact⟨rfl,rfl⟩
theorem Z3d (x y:CliM)(w:World):
  Calls Tryz.prog 43 #[x.v,y.v] w fun e w'=>e= .returned (.int .i64 (Z14 x.x y.x))∧Below w.heap.size w w':=by
 obtain⟨xm,xc,xf,xt,xa,xl,⟨xA,xk,xe⟩⟩:=x;obtain⟨ym,yc,yf,yt,ya,yl,⟨yA,yk,ye⟩⟩:=y;obtain⟨r,hr⟩:∃r,Z14 (CliM.x ⟨xm,xc,xf,xt,xa,xl,⟨xA,xk,xe⟩⟩) (CliM.x ⟨ym,yc,yf,yt,ya,yl,⟨yA,yk,ye⟩⟩)=r:=⟨_,rfl⟩;have H0:Hid (orZ [Z1x xt yt,Z1x xa ya,Z71 xm ym,Z1x xc yc,Z1x xf yf,Z1x xl yl]=r):=hr;rw[hr];have HLT:=Za (fun W=>Z8f true W);have HLF:=Za (fun W=>Z8f false W);simp only[if_true,Bool.false_eq_true,if_false]at HLT HLF;simp only[CliM.v,Slc.v];generalize (xe.length:Nat)=xn at*;generalize (ye.length:Nat)=yn at*;obtain⟨w1,hw1⟩:∃w1,w1=(w.alloc (.cells #[.string xm,.int .i64 xc,.int .i64 xf,.int .i64 xt,.int .i64 xa,.int .i64 xl,.slice xA xn xk] 39)).alloc (.cells #[.string ym,.int .i64 yc,.int .i64 yf,.int .i64 yt,.int .i64 ya,.int .i64 yl,.slice yA yn yk] 39):=⟨_,rfl⟩;have HB:Hid (Below w.heap.size w w1):=by rw[hw1];exact((Zm _ _).alloc (Zh _) _).alloc (by simp) _
 have HK:Hid (Blk w1 w.heap.size 39 [.string xm,.int .i64 xc,.int .i64 xf,.int .i64 xt,.int .i64 xa,.int .i64 xl,.slice xA xn xk]∧Blk w1 (w.heap.size+1) 39 [.string ym,.int .i64 yc,.int .i64 yf,.int .i64 yt,.int .i64 ya,.int .i64 yl,.slice yA yn yk]):=by have k1:=Blk.new w 39 [.string xm,.int .i64 xc,.int .i64 xf,.int .i64 xt,.int .i64 xa,.int .i64 xl,.slice xA xn xk];have k2:=Blk.new (w.alloc (.cells #[.string xm,.int .i64 xc,.int .i64 xf,.int .i64 xt,.int .i64 xa,.int .i64 xl,.slice xA xn xk] 39)) 39 [.string ym,.int .i64 yc,.int .i64 yf,.int .i64 yt,.int .i64 ya,.int .i64 yl,.slice yA yn yk];have e2:(w.alloc (.cells #[.string xm,.int .i64 xc,.int .i64 xf,.int .i64 xt,.int .i64 xa,.int .i64 xl,.slice xA xn xk] 39)).heap.size=w.heap.size+1:=(by simp);rw[e2]at k2;rw[hw1];exact⟨k1.same (Same.of_below (S:=fun _=>True) ((Gq.refl _).alloc _)) trivial,k2⟩
 have HW:=Za hw1;clear hw1 hr;go_enter Tryz.func43,Tryz.ntmps43;go_upto_region 1 with(fail);rw[←HW.o];have a1:w1.cell? ⟨w.heap.size,3,none⟩=some (.int .i64 xt):=HK.o.1.cell 3;have b1:w1.cell? ⟨w.heap.size+1,3,none⟩=some (.int .i64 yt):=HK.o.2.cell 3;by_cases h1:xt=yt
 case neg=>
  have hb:(!(xt==yt))=true:=by simp[h1]
  have HQ:Hid (r=if xt<yt then -1 else 1):=by show _=_;rw[←H0.o,Z17 (· < ·) xt yt _ (Z12 xt yt) (by omega),if_neg h1]
  by_cases hl:xt<yt
  · have hlb:decide (xt<yt)=true:=decide_eq_true hl;have HR2:Hid (r= -1):=(by show _=_;rw[HQ.o,if_pos hl]);go_wp2_with fail;refine(HLT.o _).mono ?_;rintro e w' ⟨rfl,rfl⟩;go_wp2_with fail;go_ret;exact⟨Z02 HR2.o.symm,HB.o⟩
  · have hlb:decide (xt<yt)=false:=decide_eq_false hl;have HR2:Hid (r=1):=(by show _=_;rw[HQ.o,if_neg hl]);go_wp2_with fail;refine(HLF.o _).mono ?_;rintro e w' ⟨rfl,rfl⟩;go_wp2_with fail;go_ret;exact⟨Z02 HR2.o.symm,HB.o⟩
 have hb1:(!(xt==yt))=false:=by simp[h1]
 have H1:=Za ((Z17 (· < ·) xt yt _ (Z12 xt yt) (by omega) _).symm.trans H0.o);rw[if_pos h1]at H1;have a2:w1.cell? ⟨w.heap.size,4,none⟩=some (.int .i64 xa):=HK.o.1.cell 4;have b2:w1.cell? ⟨w.heap.size+1,4,none⟩=some (.int .i64 ya):=HK.o.2.cell 4;by_cases h2:xa=ya
 case neg=>
  have hb:(!(xa==ya))=true:=by simp[h2]
  have HQ:Hid (r=if xa<ya then -1 else 1):=by show _=_;rw[←H1.o,Z17 (· < ·) xa ya _ (Z12 xa ya) (by omega),if_neg h2]
  by_cases hl:xa<ya
  · have hlb:decide (xa<ya)=true:=decide_eq_true hl;have HR2:Hid (r= -1):=(by show _=_;rw[HQ.o,if_pos hl]);go_wp2_with fail;refine(HLT.o _).mono ?_;rintro e w' ⟨rfl,rfl⟩;go_wp2_with fail;go_ret;exact⟨Z02 HR2.o.symm,HB.o⟩
  · have hlb:decide (xa<ya)=false:=decide_eq_false hl;have HR2:Hid (r=1):=(by show _=_;rw[HQ.o,if_neg hl]);go_wp2_with fail;refine(HLF.o _).mono ?_;rintro e w' ⟨rfl,rfl⟩;go_wp2_with fail;go_ret;exact⟨Z02 HR2.o.symm,HB.o⟩
 have hb2:(!(xa==ya))=false:=by simp[h2]
 have H2:=Za ((Z17 (· < ·) xa ya _ (Z12 xa ya) (by omega) _).symm.trans H1.o);rw[if_pos h2]at H2;have a3:w1.cell? ⟨w.heap.size,0,none⟩=some (.string xm):=HK.o.1.cell 0;have b3:w1.cell? ⟨w.heap.size+1,0,none⟩=some (.string ym):=HK.o.2.cell 0;by_cases h3:xm=ym
 case neg=>
  have hb:(!(xm.toList==ym.toList))=true:=by rw[seq_f h3];rfl
  have HQ:Hid (r=if sLt xm ym then -1 else 1):=by show _=_;rw[←H2.o,Z17 sLt xm ym _ (Z2c xm ym) (Z2f xm),if_neg h3]
  by_cases hl:sLt xm ym
  · have hlb:Op.bytesLess xm.toList ym.toList=true:=(by rw[Ze6];exact decide_eq_true hl);have HR2:Hid (r= -1):=(by show _=_;rw[HQ.o,if_pos hl]);go_wp2_with fail;refine(HLT.o _).mono ?_;rintro e w' ⟨rfl,rfl⟩;go_wp2_with fail;go_ret;exact⟨Z02 HR2.o.symm,HB.o⟩
  · have hlb:Op.bytesLess xm.toList ym.toList=false:=(by rw[Ze6];exact decide_eq_false hl);have HR2:Hid (r=1):=(by show _=_;rw[HQ.o,if_neg hl]);go_wp2_with fail;refine(HLF.o _).mono ?_;rintro e w' ⟨rfl,rfl⟩;go_wp2_with fail;go_ret;exact⟨Z02 HR2.o.symm,HB.o⟩
 have hb3:(!(xm.toList==ym.toList))=false:=by rw[seq_t h3];rfl
 have H3:=Za ((Z17 sLt xm ym _ (Z2c xm ym) (Z2f xm) _).symm.trans H2.o);rw[if_pos h3]at H3;have a4:w1.cell? ⟨w.heap.size,1,none⟩=some (.int .i64 xc):=HK.o.1.cell 1;have b4:w1.cell? ⟨w.heap.size+1,1,none⟩=some (.int .i64 yc):=HK.o.2.cell 1;by_cases h4:xc=yc
 case neg=>
  have hb:(!(xc==yc))=true:=by simp[h4]
  have HQ:Hid (r=if xc<yc then -1 else 1):=by show _=_;rw[←H3.o,Z17 (· < ·) xc yc _ (Z12 xc yc) (by omega),if_neg h4]
  by_cases hl:xc<yc
  · have hlb:decide (xc<yc)=true:=decide_eq_true hl;have HR2:Hid (r= -1):=(by show _=_;rw[HQ.o,if_pos hl]);go_wp2_with fail;refine(HLT.o _).mono ?_;rintro e w' ⟨rfl,rfl⟩;go_wp2_with fail;go_ret;exact⟨Z02 HR2.o.symm,HB.o⟩
  · have hlb:decide (xc<yc)=false:=decide_eq_false hl;have HR2:Hid (r=1):=(by show _=_;rw[HQ.o,if_neg hl]);go_wp2_with fail;refine(HLF.o _).mono ?_;rintro e w' ⟨rfl,rfl⟩;go_wp2_with fail;go_ret;exact⟨Z02 HR2.o.symm,HB.o⟩
 have hb4:(!(xc==yc))=false:=by simp[h4]
 have H4:=Za ((Z17 (· < ·) xc yc _ (Z12 xc yc) (by omega) _).symm.trans H3.o);rw[if_pos h4]at H4;have a5:w1.cell? ⟨w.heap.size,2,none⟩=some (.int .i64 xf):=HK.o.1.cell 2;have b5:w1.cell? ⟨w.heap.size+1,2,none⟩=some (.int .i64 yf):=HK.o.2.cell 2;by_cases h5:xf=yf
 case neg=>
  have hb:(!(xf==yf))=true:=by simp[h5]
  have HQ:Hid (r=if xf<yf then -1 else 1):=by show _=_;rw[←H4.o,Z17 (· < ·) xf yf _ (Z12 xf yf) (by omega),if_neg h5]
  by_cases hl:xf<yf
  · have hlb:decide (xf<yf)=true:=decide_eq_true hl;have HR2:Hid (r= -1):=(by show _=_;rw[HQ.o,if_pos hl]);go_wp2_with fail;refine(HLT.o _).mono ?_;rintro e w' ⟨rfl,rfl⟩;go_wp2_with fail;go_ret;exact⟨Z02 HR2.o.symm,HB.o⟩
  · have hlb:decide (xf<yf)=false:=decide_eq_false hl;have HR2:Hid (r=1):=(by show _=_;rw[HQ.o,if_neg hl]);go_wp2_with fail;refine(HLF.o _).mono ?_;rintro e w' ⟨rfl,rfl⟩;go_wp2_with fail;go_ret;exact⟨Z02 HR2.o.symm,HB.o⟩
 have hb5:(!(xf==yf))=false:=by simp[h5]
 have H5:=Za ((Z17 (· < ·) xf yf _ (Z12 xf yf) (by omega) _).symm.trans H4.o);rw[if_pos h5]at H5;have a6:w1.cell? ⟨w.heap.size,5,none⟩=some (.int .i64 xl):=HK.o.1.cell 5;have b6:w1.cell? ⟨w.heap.size+1,5,none⟩=some (.int .i64 yl):=HK.o.2.cell 5;by_cases h6:xl=yl
 case neg=>
  have hb:(!(xl==yl))=true:=by simp[h6]
  have HQ:Hid (r=if xl<yl then -1 else 1):=by show _=_;rw[←H5.o,Z17 (· < ·) xl yl _ (Z12 xl yl) (by omega),if_neg h6]
  by_cases hl:xl<yl
  · have hlb:decide (xl<yl)=true:=decide_eq_true hl;have HR2:Hid (r= -1):=(by show _=_;rw[HQ.o,if_pos hl]);go_wp2_with fail;refine(HLT.o _).mono ?_;rintro e w' ⟨rfl,rfl⟩;go_wp2_with fail;go_ret;exact⟨Z02 HR2.o.symm,HB.o⟩
  · have hlb:decide (xl<yl)=false:=decide_eq_false hl;have HR2:Hid (r=1):=(by show _=_;rw[HQ.o,if_neg hl]);go_wp2_with fail;refine(HLF.o _).mono ?_;rintro e w' ⟨rfl,rfl⟩;go_wp2_with fail;go_ret;exact⟨Z02 HR2.o.symm,HB.o⟩
 have hb6:(!(xl==yl))=false:=by simp[h6]
 have H6:=Za ((Z17 (· < ·) xl yl _ (Z12 xl yl) (by omega) _).symm.trans H5.o);rw[if_pos h6]at H6;have HQ:Hid (r=0):=H6.o.symm;go_wp2_with fail;go_ret;exact⟨Z02 HQ.o.symm,HB.o⟩
end Go.Proofs.YtcemlhbfemenpaaGreatDoor
