/- The contract of slices.BinarySearchFunc at points. -/
import Derived.Test.YtcemlhbfemenpaaGreatDoorCmpZ
set_option maxHeartbeats 4000000
set_option maxRecDepth 100000
namespace Go.Proofs.YtcemlhbfemenpaaGreatDoor
open Go.RowKit Go.Dw
theorem Z6o (a:Int)(n d:ByteArray)(i:Int)(w:World):
  Calls Tryz.prog 112 #[.agg #[.int .i64 a,.string n,.string d],.int .i64 i] w fun e w'=>e= .returned (.int .i64 (Z1x a i))∧Gq w w':=by
 obtain⟨w1,hw1⟩:∃w1,w1=w.alloc (.cells #[.int .i64 a,.string n,.string d] 61):=⟨_,rfl⟩;have HG:Hid (Gq w w1):=by rw[hw1];exact(Gq.refl _).alloc _
 have HK:Hid (Blk w1 w.heap.size 61 [.int .i64 a,.string n,.string d]):=by rw[hw1];exact Blk.new w _ _
 have a0:w1.cell? ⟨w.heap.size,0,none⟩=some (.int .i64 a):=HK.o.cell 0;have HC:=Za (Z29 a i w1);rw[cmpZ_eq]at HC;have HW:=Za hw1;clear hw1;go_enter Tryz.func112,Tryz.ntmps112;go_upto_region 1 with(fail);rw[←HW.o];go_wp2_with fail;refine HC.o.mono ?_;rintro e w2 ⟨rfl,rfl⟩;go_wp2_with fail;go_ret;exact⟨rfl,HG.o⟩
theorem cmpZ_lt {a i:Int}(h:a<i):Z1x a i= -1:=by unfold Z1x;rw[if_pos h]
theorem Zej {a i:Int}(h:i<a):Z1x a i=1:=by unfold Z1x;rw[if_neg (by omega),if_pos h]
theorem Z8h (a:Int):Z1x a a=0:=by unfold Z1x;rw[if_neg (by omega),if_neg (by omega)]
theorem bsp_any (A:Option Addr)(c:Nat)(e:List Pnt)(i:Int)(w:World)(h:Rd w A (e.flatMap Pnt.cs))(hl:e.length≤1000000)(hinc:Zbk e):
  Calls Tryz.prog 111 #[.slice A e.length c,.int .i64 i,.func (.func 112) #[] #[]] w fun en w'=>
   en= .returned (.tuple #[.int .i64 (Z18 e i:Nat),.bool (decide (Z18 e i<e.length∧(e.getD (Z18 e i) Z0j).at_=i))])∧Gq w w':=by
 have HR:=Za h;have HI:=Za hinc;clear h hinc;go_enter Tryz.func111,Tryz.ntmps111;go_wp2_with fail
 go_loopw [9,10] (fun lv hv wr=>∃lo hi:Nat,lv= .int .i64 (lo:Int)∧hv= .int .i64 (hi:Int)∧lo≤hi∧hi≤e.length∧Hid (∀j,j<lo→(e.getD j Z0j).at_<i)∧Hid (hi<e.length→i≤(e.getD hi Z0j).at_)∧Hid (Gq w wr)) (fun lv hv _=>(intOf hv).toNat - (intOf lv).toNat)
 case atStart=>exact⟨0,e.length,rfl,rfl,Nat.zero_le _,Zh _,fun j hj=>by omega,fun hh=>by omega,Gq.refl _⟩
 case round=>
  obtain⟨lo,hi,rfl,rfl,hlh,hhl,HLO,HHI,HG⟩:=hrel;by_cases hlt:lo<hi
  ·
   have hd:decide (lo<hi)=true:=(by simpa using hlt);obtain⟨m,hm⟩:∃m,m=(lo+hi) / 2:=⟨_,rfl⟩;have hm1:lo≤m:=(by omega);have hm2:m<hi:=(by omega);have hme:((lo:Int)+(hi:Int)) / 2=(m:Int):=(by omega);clear hm;have hml:m<e.length:=(by omega);have hx0:(0:Int)≤(m:Int):=(by omega);have hx1:(m:Int)<(e.length:Int):=(by omega);obtain⟨b,off,hA,hbb,hc⟩:=Z4a (HR.o.below HG.o) (by omega);subst hA;obtain⟨p0,p1,p2⟩:=hc m hml;have hgd:e.getD m Z0j=e[m]:=(by rw[Zg,Zi hml];rfl);have HLO2:Hid (e[m].at_<i→∀j,j<m+1→(e.getD j Z0j).at_<i):=fun hh j hj=>(by have:=Z7w HI.o (show j≤m by omega) hml;rw[hgd]at this;omega);have HHI2:Hid (i≤e[m].at_→m<e.length→i≤(e.getD m Z0j).at_):=fun hh _=>(by rw[hgd];exact hh);clear hc hgd;obtain⟨pt,hpt⟩:∃pt,e[m]=pt:=⟨_,rfl⟩;rw[hpt]at p0 p1 p2 HLO2 HHI2;clear hpt;obtain⟨pa,pn,pd⟩:=pt;simp only at p0 p1 p2;have HB:=Za (Z6o pa pn pd i wr);by_cases hpi:pa<i
   ·
    have HLO3:=Za (HLO2.o hpi);rw[cmpZ_lt hpi]at HB;clear hpi;go_wp2_with fail;refine HB.o.mono ?_;rintro en w2 ⟨rfl,hg2⟩;have HG2:Hid (Gq w w2):=HG.o.trans hg2;clear hg2 p0 p1 p2;go_wp2_with fail;go_roundw
    case rel=>exact⟨m+1,hi,by go_num,rfl,by omega,hhl,HLO3,HHI,HG2⟩
    case measure=>simp[intOf];omega
   ·
    have HHI3:=Za (HHI2.o (by show i≤pa;omega))
    have hnl:decide (Z1x pa i<0)=false:=by
     rcases Int.lt_or_eq_of_le (show i≤pa by omega)with g|g
     · rw[Zej g];rfl
     · rw[←g,Z8h];rfl
    have hnl2:¬Z1x pa i<0:=of_decide_eq_false hnl;clear hpi;generalize Z1x pa i=r at*;go_wp2_with fail;refine HB.o.mono ?_;rintro en w2 ⟨rfl,hg2⟩;have HG2:Hid (Gq w w2):=HG.o.trans hg2;clear hg2 p0 p1 p2;go_wp2_with fail;go_roundw
    case rel=>exact⟨lo,m,rfl,rfl,hm1,by omega,HLO,HHI3,HG2⟩
    case measure=>simp[intOf];omega
  ·
   have hd:decide (lo<hi)=false:=(by simpa using hlt);obtain rfl:lo=hi:=(by omega);have HLP:Hid (Z18 e i=lo):=Z26 hhl HLO.o HHI.o;by_cases hle:lo<e.length
   ·
    have hd2:decide (lo<e.length)=true:=(by simpa using hle);have hx0:(0:Int)≤(lo:Int):=(by omega);have hx1:(lo:Int)<(e.length:Int):=(by omega);obtain⟨b,off,hA,hbb,hc⟩:=Z4a (HR.o.below HG.o) (by omega);subst hA;obtain⟨p0,p1,p2⟩:=hc lo hle;have HGE:=Za (HHI.o hle);have hgd:e.getD lo Z0j=e[lo]:=(by rw[Zg,Zi hle];rfl);rw[hgd]at HGE;have HGD:=Za hgd;clear hc hgd;obtain⟨pt,hpt⟩:∃pt,e[lo]=pt:=⟨_,rfl⟩;rw[hpt]at p0 p1 p2 HGE HGD;clear hpt;obtain⟨pa,pn,pd⟩:=pt;simp only at p0 p1 p2;have HB:=Za (Z6o pa pn pd i wr);by_cases he:pa=i
    ·
     subst he;rw[Z8h]at HB;go_wp2_with fail;refine HB.o.mono ?_;rintro en w2 ⟨rfl,hg2⟩;have HG2:Hid (Gq w w2):=HG.o.trans hg2;clear hg2 p0 p1 p2;go_wp2_with fail
     go_ret2
     exact⟨by rw[HLP.o,HGD.o];simp[hle],HG2.o⟩
    ·
     have hgt:i<pa:=(by have h1:i≤pa:=HGE.o;omega);rw[Zej hgt]at HB;have HE:Hid (¬pa=i):=he;clear he hgt;go_wp2_with fail;refine HB.o.mono ?_;rintro en w2 ⟨rfl,hg2⟩;have HG2:Hid (Gq w w2):=HG.o.trans hg2;clear hg2 p0 p1 p2;go_wp2_with fail
     go_ret2
     exact⟨by rw[HLP.o,HGD.o];have h2:=HE.o;simp[h2],HG2.o⟩
   ·
    have hd2:decide (lo<e.length)=false:=(by simpa using hle);go_wp2_with fail
    go_ret2
    exact⟨by rw[HLP.o];simp[hle],HG.o⟩
end Go.Proofs.YtcemlhbfemenpaaGreatDoor
