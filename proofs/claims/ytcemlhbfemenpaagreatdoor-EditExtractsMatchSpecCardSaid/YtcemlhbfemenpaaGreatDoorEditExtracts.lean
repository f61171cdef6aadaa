/- Generated (gen/exl.py): the walk of EditExtractsMatchSpec. -/
import Derived.Test.YtcemlhbfemenpaaGreatDoorRfeZ
import Derived.Test.YtcemlhbfemenpaaGreatDoorSam
import Derived.Test.YtcemlhbfemenpaaGreatDoorAwkN
import Derived.Test.YtcemlhbfemenpaaGreatDoorLaid
set_option maxHeartbeats 16000000
set_option maxRecDepth 100000
namespace Go.Proofs.YtcemlhbfemenpaaGreatDoor
open Go.RowKit Go.Dw
attribute [local go_sem ↓] Go.wp_at_zero Go.wp_at_succ
structure SpnM where
 a:Int
 b:Int
def SpnM.cs (s:SpnM):List Value:= [.int .i64 s.a,.int .i64 s.b]
def SpnM.v (s:SpnM):Value:= .agg #[.int .i64 s.a,.int .i64 s.b]
theorem decSpan {H:Type}{enc:TypeId×Value→H}{w:World}:Dec enc Tryz.prog w 26 SpnM.cs (fun s=>Z0l s.a∧Z0l s.b):=
 (Dec.struct (tot:=2) (fl:= [(3,0,1),(3,1,1)]) Tryz.underlying26 (by kernel_rfl) (by kernel_rfl)
  (Z4r.cons (Dec.int Tryz.underlying3) (Z4r.cons (tot:=0) (Dec.int Tryz.underlying3) Z4r.nil))).map
  (fun p=>(⟨p.1,p.2.1⟩:SpnM)) (fun _=>rfl) (fun p h=>⟨h.1,h.2.1⟩)
theorem mkE_lenX {nm:ByteArray→Bool}{mx:Int}{e:Edt}:(mkE nm mx e).1.cs.length≤300:=by
 unfold mkE
 split
 · simp[e0]
 · rename_i h;exact(Z94 (by simpa using h)).l
theorem extE_srt {nm:ByteArray→Bool}{mx:Int}{e:Edt}{a b:Int}:Srt (extE nm mx e a b).1.cs∧(extE nm mx e a b).1.cs.length≤300:=by
 unfold extE
 split
 · exact⟨Zec,by simp[e0]⟩
 ·
  split
  · exact⟨Zec,by simp[e0]⟩
  · exact⟨mkE_srt,mkE_lenX⟩
theorem same_eq (r:Edt)(hs:Srt r.cs)(hl:r.cs.length≤300)(x y:EdtM)(hx:x.x=r)(hy:y.x=r)(W:World)(kx:EdtOk W x)(ky:EdtOk W y):
  Calls Tryz.prog 7 #[x.v,y.v] W fun e w'=>e= .returned (.bool true)∧Gq W w':=by
 have h1:y.x.cs.length≤300:=by rw[hy];exact hl
 have h2:y.cs.xs.length≤300:=by simpa [EdtM.x]using h1
 have he:x.x=y.x:=by rw[hx,hy]
 exact same_any x y true (by
   simp only[true_iff];refine⟨congrArg Edt.rate he,congrArg Edt.tracks he, ?_⟩;have h1:x.cs.xs.map CliM.x=y.cs.xs.map CliM.x:=congrArg Edt.cs he;rw[←h1]
   exact SmC.refl (show Srt x.x.cs by rw[hx];exact hs)) W kx ky (by omega)
theorem extracts_law (e:EdtM)(s:SpnM)(w:World)(he:EdtOk w e)(_hs:Z0l s.a∧Z0l s.b)(hp:HasPow w):
  Calls Tryz.prog 3 #[e.v,s.v] w fun e w'=>e= .returned (.bool true)∧Below w.heap.size w w':=by
 obtain⟨p,q⟩:=s;obtain⟨RJ,hRJ⟩:∃r,extE Z0r 1000000 e.x p q=r:=⟨_,rfl⟩;have HSJ:Hid (Srt RJ.1.cs∧RJ.1.cs.length≤300):=by rw[←hRJ];exact extE_srt
 have H1:Hid (∀W,Gq w W→Calls Tryz.prog 5 #[e.v,.agg #[.int .i64 p,.int .i64 q]] W (EdiR RJ W)):=fun W hW=>by rw[←hRJ,←ext_eq];exact Z9r e p q W (he.below hW)
 have H2:Hid (∀W,Gq w W→Calls Tryz.prog 6 #[e.v,.agg #[.int .i64 p,.int .i64 q]] W (EdiR RJ W)):=fun W hW=>by rw[←hRJ];exact Z8v e p q W (he.below hW) (hp.below hW)
 have HAW:Hid (∀W,Gq w W→Calls Tryz.prog 8 #[] W fun e w'=>e= .returned (.bool true)∧Gq W w'):=fun W hW=>awake0 W (hp.below hW);clear hRJ he hp _hs;obtain⟨Jx,Jf⟩:=RJ;obtain⟨er,et,⟨eA,ed,es⟩⟩:=e;simp only[EdtM.v,Slc.v,SpnM.v]at H1 H2⊢;obtain⟨en,hen⟩:∃n:Nat,es.length=n:=⟨_,rfl⟩;rw[hen]at H1 H2⊢;clear hen es;obtain⟨b0,hb0⟩:∃b,w.heap.size=b:=⟨_,rfl⟩;obtain⟨wa,hwa⟩:∃wa,wa=w.alloc (.cells #[.int .i64 er,.int .i64 et,.slice eA en ed] 24):=⟨_,rfl⟩;obtain⟨w1,hw1⟩:∃w1,w1=wa.alloc (.cells #[.int .i64 p,.int .i64 q] 26):=⟨_,rfl⟩;have hza:wa.heap.size=b0+1:=by rw[hwa];simp;omega
 have hga:Gq w wa:=by rw[hwa];exact(Gq.refl _).alloc _
 have hgb:Gq wa w1:=by rw[hw1];exact(Gq.refl _).alloc _
 have HG1:Hid (Gq w w1):=hga.trans hgb;have HKA:Hid (Blk w1 b0 24 [.int .i64 er,.int .i64 et,.slice eA en ed]):=by refine Z0o (?_:Blk wa b0 _ _) hgb;rw[hwa,←hb0];exact Blk.new w _ _
 have HKB:Hid (Blk w1 (b0+1) 26 [.int .i64 p,.int .i64 q]):=by rw[hw1,←hza];exact Blk.new wa _ _
 have HCE:Hid (∀W,Gq w1 W→W.cell? ⟨b0,0,none⟩=some (.int .i64 er)∧W.cell? ⟨b0,1,none⟩=some (.int .i64 et)∧W.cell? ⟨b0,2,none⟩=some (.slice eA en ed)∧W.cell? ⟨b0+1,0,none⟩=some (.int .i64 p)∧W.cell? ⟨b0+1,1,none⟩=some (.int .i64 q)):=fun W hW=>by have k1:=Z0o HKA.o hW;have k2:=Z0o HKB.o hW;exact⟨k1.cell 0,k1.cell 1,k1.cell 2,k2.cell 0,k2.cell 1⟩
 have HCO:Hid (∀W W' g (r t:Int) A m c,Blk W g 24 [.int .i64 r,.int .i64 t,.slice A m c]→Gq W W'→W'.cell? ⟨g,0,none⟩=some (.int .i64 r)∧W'.cell? ⟨g,1,none⟩=some (.int .i64 t)∧W'.cell? ⟨g,2,none⟩=some (.slice A m c)):=fun W W' g r t A m c h hg=>by have k:=Z0o h hg;exact⟨k.cell 0,k.cell 1,k.cell 2⟩
 rw[hwa]at hw1;have HW1:=Za hw1;obtain⟨c0,c1,c2,c3,c4⟩:=HCE.o w1 (Gq.refl _);have HC1:=Za (H1.o w1 HG1.o);clear hwa hw1 hza hga hgb H1;go_enter Tryz.func3,Tryz.ntmps3;go_upto_region 1 with(fail);rw[←HW1.o];try simp only[hb0]
 clear hb0;go_wp2_with fail;refine HC1.o.mono ?_;rintro e u1 ⟨hb,x,rfl,hx1,hxo⟩;have HXx:Hid (x.x=Jx):=hx1;have HOx:=Za hxo;obtain⟨x',hx'⟩:∃z,x=z:=⟨_,rfl⟩;have HVx:Hid (x'.v=x.v):=by show _=_;rw[hx']
 have HXx':Hid (x'.x=Jx):=by rw[←hx'];exact HXx.o
 have HOx':Hid (EdtOk u1 x'):=by rw[←hx'];exact HOx.o
 clear hx' hx1 hxo HXx HOx;obtain⟨xr,xt,⟨xA,xd,xs⟩⟩:=x;replace HVx:Hid (x'.v= .agg #[.int .i64 xr,.int .i64 xt,.slice xA xs.length xd]):=HVx;simp only[EdtM.v,Slc.v];obtain⟨xn,hxn⟩:∃n:Nat,xs.length=n:=⟨_,rfl⟩;rw[hxn]at HVx⊢;clear hxn;obtain⟨w3,hw⟩:∃W,W=u1.alloc (.cells #[.int .i64 xr,.int .i64 xt,.slice xA xn xd] 24):=⟨_,rfl⟩;have HBx:Hid (Gq w1 u1):=hb;have HNx:Hid (Gq u1 w3):=by rw[hw];exact(Gq.refl _).alloc _
 have HKx:Hid (Blk w3 u1.heap.size 24 [.int .i64 xr,.int .i64 xt,.slice xA xn xd]):=by rw[hw];exact Blk.new u1 _ _
 have HG2:Hid (Gq w1 w3):=(HBx.o.trans HNx.o);have HW2:=Za hw;clear hb hw c0 c1 c2 c3 c4 HC1;obtain⟨c0,c1,c2,c3,c4⟩:=HCE.o w3 HG2.o;have HC2:=Za (H2.o w3 (HG1.o.trans HG2.o));clear H2;go_upto_region 2 with(fail);rw[←HW2.o];go_wp2_with fail;refine HC2.o.mono ?_;rintro e u2 ⟨hb,y,rfl,hx1,hxo⟩;have HXy:Hid (y.x=Jx):=hx1;have HOy:=Za hxo;obtain⟨y',hy'⟩:∃z,y=z:=⟨_,rfl⟩;have HVy:Hid (y'.v=y.v):=by show _=_;rw[hy']
 have HXy':Hid (y'.x=Jx):=by rw[←hy'];exact HXy.o
 have HOy':Hid (EdtOk u2 y'):=by rw[←hy'];exact HOy.o
 clear hy' hx1 hxo HXy HOy;obtain⟨yr,yt,⟨yA,yd,ys⟩⟩:=y;replace HVy:Hid (y'.v= .agg #[.int .i64 yr,.int .i64 yt,.slice yA ys.length yd]):=HVy;simp only[EdtM.v,Slc.v];obtain⟨yn,hyn⟩:∃n:Nat,ys.length=n:=⟨_,rfl⟩;rw[hyn]at HVy⊢;clear hyn;obtain⟨w5,hw⟩:∃W,W=u2.alloc (.cells #[.int .i64 yr,.int .i64 yt,.slice yA yn yd] 24):=⟨_,rfl⟩;have HBy:Hid (Gq w3 u2):=hb;have HNy:Hid (Gq u2 w5):=by rw[hw];exact(Gq.refl _).alloc _
 have HKy:Hid (Blk w5 u2.heap.size 24 [.int .i64 yr,.int .i64 yt,.slice yA yn yd]):=by rw[hw];exact Blk.new u2 _ _
 have HG3:Hid (Gq w1 w5):=HG2.o.trans (HBy.o.trans HNy.o);have HW3:=Za hw;clear hb hw c0 c1 c2 c3 c4 HC2;go_upto_region 3 with(fail);rw[←HW3.o];have HEJ:Hid (∀W,Gq w5 W→Calls Tryz.prog 7 #[.agg #[.int .i64 xr,.int .i64 xt,.slice xA xn xd],.agg #[.int .i64 yr,.int .i64 yt,.slice yA yn yd]] W fun e w'=>e= .returned (.bool true)∧Gq w5 w'):=fun W hW=>by have h:=same_eq Jx HSJ.o.1 HSJ.o.2 x' y' HXx'.o HXy'.o W (HOx'.o.below ((HNx.o.trans (HBy.o.trans HNy.o)).trans hW)) (HOy'.o.below (HNy.o.trans hW));rw[HVx.o,HVy.o]at h;exact h.mono fun _ _ h=>⟨h.1,hW.trans h.2⟩
 obtain⟨xk0,xk1,xk2⟩:=HCO.o _ w5 _ _ _ _ _ _ HKx.o (HBy.o.trans HNy.o);obtain⟨yk0,yk1,yk2⟩:=HCO.o _ w5 _ _ _ _ _ _ HKy.o (Gq.refl _);have hjj:(Jf==Jf)=true:=by simp
 have HE1:=Za (HEJ.o w5 (Gq.refl _));clear HEJ;go_wp2_with fail;refine HE1.o.mono ?_;rintro e v2 ⟨rfl,hv2⟩;have HV2:Hid (Gq w v2):=HG1.o.trans (HG3.o.trans hv2);have HE3:=Za (HAW.o v2 HV2.o);clear hv2 HE1 xk0 xk1 xk2 yk0 yk1 yk2;go_wp2_with fail;refine HE3.o.mono ?_;rintro e v3 ⟨rfl,hv3⟩;have HV3:Hid (Gq w v3):=HV2.o.trans hv3;clear hv3;go_wp2_with fail;go_ret;exact⟨rfl,HV3.o⟩
end Go.Proofs.YtcemlhbfemenpaaGreatDoor
