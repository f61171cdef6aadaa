/- The contract of deadwaxlaw3's same. -/
import Derived.Test.YtcemlhbfemenpaaGreatDoorSmcZ
set_option maxHeartbeats 4000000
set_option maxRecDepth 100000
namespace Go.Proofs.YtcemlhbfemenpaaGreatDoor
open Go.RowKit Go.Dw
def twoE (w:World)(a b:Int)(A:Option Addr)(n c:Nat)(a' b':Int)(A':Option Addr)(n' c':Nat):World:=(w.alloc (.cells #[.int .i64 a,.int .i64 b,.slice A n c] 24)).alloc (.cells #[.int .i64 a',.int .i64 b',.slice A' n' c'] 24)
theorem twoE_blk (w:World)(a b:Int)(A:Option Addr)(n c:Nat)(a' b':Int)(A':Option Addr)(n' c':Nat):
  Gq w (twoE w a b A n c a' b' A' n' c')∧Blk (twoE w a b A n c a' b' A' n' c') w.heap.size 24 [.int .i64 a,.int .i64 b,.slice A n c]∧Blk (twoE w a b A n c a' b' A' n' c') (w.heap.size+1) 24 [.int .i64 a',.int .i64 b',.slice A' n' c']:=by
 have k1:=Blk.new w 24 [.int .i64 a,.int .i64 b,.slice A n c];have k2:=Blk.new (w.alloc (.cells #[.int .i64 a,.int .i64 b,.slice A n c] 24)) 24 [.int .i64 a',.int .i64 b',.slice A' n' c'];have e2:(w.alloc (.cells #[.int .i64 a,.int .i64 b,.slice A n c] 24)).heap.size=w.heap.size+1:=by simp
 rw[e2]at k2;exact⟨((Gq.refl _).alloc _).alloc _,k1.same (Same.alloc (S:=fun _=>True) _ _) trivial,k2⟩
theorem same_any (x y:EdtM)(q:Bool)(hq:q=true↔x.rate=y.rate∧x.tracks=y.tracks∧SmC (x.cs.xs.map CliM.x) (y.cs.xs.map CliM.x))(w:World)(hx:EdtOk w x)(hy:EdtOk w y)(hl:y.cs.xs.length≤1048576):
  Calls Tryz.prog 7 #[x.v,y.v] w fun e w'=>e= .returned (.bool q)∧Gq w w':=by
 obtain⟨r1,t1,⟨A,c,xs⟩⟩:=x;obtain⟨r2,t2,⟨B,d,ys⟩⟩:=y
 obtain⟨q2,hq2⟩:∃q2:Bool,q2=true↔SmC (xs.map CliM.x) (ys.map CliM.x):=by
  by_cases h:SmC (xs.map CliM.x) (ys.map CliM.x)
  · exact⟨true,by simp[h]⟩
  · exact⟨false,by simp[h]⟩
 have HSC:Hid (∀W,Gq w W→Calls Tryz.prog 20 #[.slice A xs.length c,.slice B ys.length d] W fun e w'=>e= .returned (.bool q2)∧Gq W w'):=fun W hW=>
  Z7q A B c d xs ys q2 hq2 W (hx.cr.below hW) (hy.cr.below hW) (fun x h=>(hx.co x h).below hW) (fun x h=>(hy.co x h).below hW) hx.cl hl
 have HQ:Hid (q=(decide (r1=r2) && decide (t1=t2) && q2)):=by show _=_;rw[Bool.eq_iff_iff,hq];simp[hq2,and_assoc]
 clear hq hq2 hx hy hl;simp only[EdtM.v,Slc.v];generalize (xs.length:Nat)=xn at*;generalize (ys.length:Nat)=yn at*;obtain⟨w1,hw1⟩:∃w1,w1=twoE w r1 t1 A xn c r2 t2 B yn d:=⟨_,rfl⟩;obtain⟨k0,k1,k2⟩:=twoE_blk w r1 t1 A xn c r2 t2 B yn d;rw[←hw1]at k0 k1 k2;have HG1:Hid (Gq w w1):=k0;have a0:w1.cell? ⟨w.heap.size,0,none⟩=some _:=k1.cell 0;have a1:w1.cell? ⟨w.heap.size,1,none⟩=some _:=k1.cell 1;have a2:w1.cell? ⟨w.heap.size,2,none⟩=some _:=k1.cell 2;have b0:w1.cell? ⟨w.heap.size+1,0,none⟩=some _:=k2.cell 0;have b1:w1.cell? ⟨w.heap.size+1,1,none⟩=some _:=k2.cell 1;have b2:w1.cell? ⟨w.heap.size+1,2,none⟩=some _:=k2.cell 2;unfold twoE at hw1;have HW:=Za hw1;clear hw1 k0 k1 k2;go_enter Tryz.func7,Tryz.ntmps7;go_upto_region 1 with(fail);rw[←HW.o];by_cases h1:r1=r2
 ·
  subst h1;by_cases h2:t1=t2
  · subst h2;have HE:Hid (q=q2):=(by show _=_;rw[HQ.o];simp);go_wp2_with fail;refine(HSC.o _ HG1.o).mono ?_;rintro e w2 ⟨rfl,hg⟩;have HG2:Hid (Gq w w2):=HG1.o.trans hg;clear hg;go_wp2_with fail;go_ret;exact⟨Z0a (by rw[HE.o]),HG2.o⟩
  · have HE:Hid (q=false):=(by show _=_;rw[HQ.o];simp[h2]);have hd:(t1==t2)=false:=(by simpa using h2);clear h2;go_wp2_with fail;go_ret;exact⟨Z0a (by rw[HE.o]),HG1.o⟩
 · have HE:Hid (q=false):=(by show _=_;rw[HQ.o];simp[h1]);have hd:(r1==r2)=false:=(by simpa using h1);clear h1;go_wp2_with fail;go_ret;exact⟨Z0a (by rw[HE.o]),HG1.o⟩
end Go.Proofs.YtcemlhbfemenpaaGreatDoor
