/- The contract of deadwaxlaw3's awake, by what write and Text do where there is no clip. -/
import Derived.Test.YtcemlhbfemenpaaGreatDoorTxtZ
import Derived.Test.YtcemlhbfemenpaaGreatDoorCliZ
set_option maxHeartbeats 16000000
set_option maxRecDepth 100000
namespace Go.Proofs.YtcemlhbfemenpaaGreatDoor
open Go.RowKit Go.Dw
attribute [local go_sem ↓] Go.wp_at_zero Go.wp_at_succ
theorem write_0 (rt tk:Int)(w:World)(hr:Z0l rt)(ht:Z0l tk)(hp:HasPow w):
  Calls Tryz.prog 44 #[.agg #[.int .i64 rt,.int .i64 tk,.slice none 0 0]] w fun en w'=>en= .returned (.string (mkB ([101,100,105,116,32]++Lib.itoa rt++ [32]++Lib.itoa tk++ [10])))∧Below w.heap.size w w':=by
 obtain⟨H0,hH0⟩:∃H0,H0= [101,100,105,116,32]++Lib.itoa rt++ [32]++Lib.itoa tk++ [10]:=⟨_,rfl⟩;rw[←hH0];obtain⟨w1,hw1⟩:∃w1,w1=w.alloc (.cells #[.int .i64 rt,.int .i64 tk,.slice none 0 0] 24):=⟨_,rfl⟩;have HB:Hid (Gq w w1):=by rw[hw1];exact(Gq.refl _).alloc _
 have HK:Hid (Blk w1 w.heap.size 24 [.int .i64 rt,.int .i64 tk,.slice none 0 0]):=by rw[hw1];exact Blk.new w _ _
 have HPW:Hid (HasPow w1):=hp.below HB.o;have HW:=Za hw1;obtain⟨w2,hw2⟩:∃w2,w2=w1.alloc (.cells #[.pointer none,.slice none 0 0] 103):=⟨_,rfl⟩;have HW2:=Za hw2;have HI2:Hid (WI w1 [] w2):=by rw[hw2];exact⟨Zfx w1,(Gq.refl w1).alloc _⟩
 have HS:Hid (∀T W,WI w1 T W→W.cell? ⟨w.heap.size,0,none⟩=some (.int .i64 rt)∧W.cell? ⟨w.heap.size,1,none⟩=some (.int .i64 tk)∧W.cell? ⟨w.heap.size,2,none⟩=some (.slice none 0 0)):=fun T W hW=>by have k1:=HK.o.same (Same.of_below (S:=fun _=>True) hW.2) trivial;exact⟨k1.cell 0,k1.cell 1,k1.cell 2⟩
 have h1:=Z95 rt hr;have h2:=Z95 tk ht;obtain⟨r1,r2⟩:=hr;obtain⟨t1,t2⟩:=ht
 have HN1:Hid (∀W,WI w1 [] W→Calls Tryz.prog 68 #[.string ⟨#[101,100,105,116,32]⟩,.int .i64 rt,.pointer (some ⟨w1.heap.size,0,none⟩)] W (WrR w1 ([101,100,105,116,32]++Lib.itoa rt) W)):=fun W hW=>
  Zfz w1 [] ⟨#[101,100,105,116,32]⟩ rt W hW (by show 0+5≤_;omega) ⟨r1,r2⟩ HPW.o
 have HN2:Hid (∀W,WI w1 ([101,100,105,116,32]++Lib.itoa rt) W→Calls Tryz.prog 68 #[.string ⟨#[32]⟩,.int .i64 tk,.pointer (some ⟨w1.heap.size,0,none⟩)] W (WrR w1 ([101,100,105,116,32]++Lib.itoa rt++ [32]++Lib.itoa tk) W)):=fun W hW=>
  Zfz w1 _ ⟨#[32]⟩ tk W hW (by rw[Zj];show 5+(Lib.itoa rt).length+1≤_;omega) ⟨t1,t2⟩ HPW.o
 have HN3:Hid (∀W,WI w1 ([101,100,105,116,32]++Lib.itoa rt++ [32]++Lib.itoa tk) W→Calls Tryz.prog 69 #[.pointer (some ⟨w1.heap.size,0,none⟩),.string ⟨#[10]⟩] W (WrR w1 H0 W)):=fun W hW=>by
  rw[hH0];exact
  Z68 w1 _ ⟨#[10]⟩ W hW (by
   show([101,100,105,116,32]++Lib.itoa rt++ [32]++Lib.itoa tk:List UInt8).length+1≤_
   simp only[Zj,List.length_cons,List.length_nil];omega)
 clear hw1 hw2 hp h1 h2 hH0;obtain⟨c0,c1,c2⟩:=HS.o _ _ HI2.o;go_enter Tryz.func44,Tryz.ntmps44;go_upto_region 1 with(fail);rw[←HW.o];go_upto_region 3 with(fail);rw[←HW2.o];go_wp2_with fail;refine(HN1.o _ HI2.o).mono ?_;rintro e w3 ⟨⟨v3,rfl⟩,hw3, -⟩;have HI3:=Za hw3;clear hw3 c0 c1 c2 HN1;obtain⟨c0,c1,c2⟩:=HS.o _ _ HI3.o;go_wp2_with fail;refine(HN2.o _ HI3.o).mono ?_;rintro e w4 ⟨⟨v4,rfl⟩,hw4, -⟩;have HI4:=Za hw4;clear hw4 c0 c1 c2 HN2;go_wp2_with fail;refine(HN3.o _ HI4.o).mono ?_;rintro e w5 ⟨⟨v5,rfl⟩,hw5, -⟩;have HI5:=Za hw5;clear hw5 HN3;obtain⟨c0,c1,c2⟩:=HS.o _ _ HI5.o;go_wp2_with fail;clear c0 c1 c2
 go_loopw [24] (fun kv wr=>kv= .int .i64 0∧Hid (WI w1 H0 wr)) (fun _ _=>0)
 case atStart=>exact⟨rfl,HI5⟩
 case round=>clear HI5;obtain⟨rfl,HI⟩:=hrel;have HST:=Za (Z9u w1.heap.size w1.heap.size _ wr HI.o.1 HI.o.2.size);have HBW:=Za HI.o.2;go_wp2_with fail;refine HST.o.mono ?_;rintro e w6 ⟨rfl,hb6⟩;have HB6:Hid (Gq w w6):=HB.o.trans (HBW.o.trans hb6);clear hb6;go_wp2_with fail;go_ret;exact⟨rfl,HB6.o⟩
theorem dig1N (n:Nat)(h:n<10):Lib.itoa (n:Int)= [UInt8.ofNat (48+n)]:=by
 unfold Lib.itoa;rw[if_neg (by omega),Int.toNat_natCast,Lib.decDigits,dif_pos h]
theorem hd23:mkB ([101,100,105,116,32]++Lib.itoa 2++ [32]++Lib.itoa 3++ [10])=⟨#[101,100,105,116,32,50,32,51,10]⟩:=by
 have a:Lib.itoa 2= [50]:=dig1N 2 (by omega);have b:Lib.itoa 3= [51]:=dig1N 3 (by omega);rw[a,b];rfl
theorem edi23:Z0y Z0r 1000000 ⟨2,3,[]⟩=0:=by
 unfold Z0y;rw[if_neg (by simp),if_neg (by simp)];rfl
theorem text_0 (w:World)(hp:HasPow w):Calls Tryz.prog 21 #[.agg #[.int .i64 2,.int .i64 3,.slice none 0 0]] w fun e w'=>e= .returned (.tuple #[.string ⟨#[101,100,105,116,32,50,32,51,10]⟩,.int .i64 0])∧Below w.heap.size w w':=by
 have HCK:Hid (∀W,Calls Tryz.prog 12 #[.agg #[.int .i64 2,.int .i64 3,.slice none 0 0]] W fun en w'=>en= .returned (.int .i64 0)∧Gq W w'):=fun W=>by have h:=Z62 ⟨2,3,⟨none,0,[]⟩⟩ W ⟨⟨by decide,by decide⟩,⟨by decide,by decide⟩,by simp,.inl rfl,fun c hc=>by simp at hc⟩;rw[show EdtM.x ⟨2,3,⟨none,0,[]⟩⟩=⟨2,3,[]⟩from rfl,edi23]at h;exact h
 have HWR:Hid (∀W,Gq w W→Calls Tryz.prog 44 #[.agg #[.int .i64 2,.int .i64 3,.slice none 0 0]] W fun en w'=>en= .returned (.string ⟨#[101,100,105,116,32,50,32,51,10]⟩)∧Gq W w'):=fun W hW=>by have h:=write_0 2 3 W ⟨by decide,by decide⟩ ⟨by decide,by decide⟩ (hp.below hW);rw[hd23]at h;exact h
 obtain⟨s,hs⟩:∃s:ByteArray,(⟨#[101,100,105,116,32,50,32,51,10]⟩:ByteArray)=s:=⟨_,rfl⟩;have hz:decide (500000<s.size)=false:=by rw[←hs];rfl
 have hz2:decide ((500000:Int)<(s.size:Int))=false:=by rw[←hs];rfl
 rw[hs]at HWR⊢;obtain⟨w1,hw1⟩:∃w1,w1=w.alloc (.cells #[.int .i64 2,.int .i64 3,.slice none 0 0] 24):=⟨_,rfl⟩;have HB:Hid (Gq w w1):=by rw[hw1];exact(Gq.refl _).alloc _
 have HK:Hid (Blk w1 w.heap.size 24 [.int .i64 2,.int .i64 3,.slice none 0 0]):=by rw[hw1];exact Blk.new w _ _
 have c0:w1.cell? ⟨w.heap.size,0,none⟩=some (.int .i64 2):=HK.o.cell 0;have c1:w1.cell? ⟨w.heap.size,1,none⟩=some (.int .i64 3):=HK.o.cell 1;have c2:w1.cell? ⟨w.heap.size,2,none⟩=some (.slice none 0 0):=HK.o.cell 2;have HW:=Za hw1;clear hw1 hp hs;go_enter Tryz.func21,Tryz.ntmps21;go_upto_region 1 with(fail);rw[←HW.o];go_wp2_with fail;refine(HCK.o _).mono ?_;rintro e w2 ⟨rfl,hb2⟩;have HB2:Hid (Gq w w2):=HB.o.trans hb2;have HK2:=Za (HK.o.same (Same.of_below (S:=fun _=>True) hb2) trivial);have HE2:=Za (HWR.o w2 HB2.o);clear hb2 c0 c1 c2;have c0:w2.cell? ⟨w.heap.size,0,none⟩=some (.int .i64 2):=HK2.o.cell 0;have c1:w2.cell? ⟨w.heap.size,1,none⟩=some (.int .i64 3):=HK2.o.cell 1;have c2:w2.cell? ⟨w.heap.size,2,none⟩=some (.slice none 0 0):=HK2.o.cell 2;go_wp2_with fail;refine HE2.o.mono ?_;rintro e w3 ⟨rfl,hb3⟩;have HB3:Hid (Gq w w3):=HB2.o.trans hb3;clear hb3;go_wp2_with fail
 go_ret2
 exact⟨rfl,HB3.o⟩
theorem awake0 (w:World)(hp:HasPow w):Calls Tryz.prog 8 #[] w fun e w'=>e= .returned (.bool true)∧Below w.heap.size w w':=by
 have HT:=Za (text_0 w hp);have e2:((⟨#[101,100,105,116,32,50,32,51,10]⟩:ByteArray).toList== [101,100,105,116,32,50,32,51,10])=true:=by rw[ByteArray.toList_eq];rfl
 generalize (⟨#[101,100,105,116,32,50,32,51,10]⟩:ByteArray)=s at HT e2;go_enter Tryz.func8,Tryz.ntmps8;go_wp2_with fail;refine HT.o.mono ?_;rintro e w1 ⟨rfl,hb1⟩;have HB1:=Za hb1;clear hb1;go_wp2_with fail;go_ret;exact⟨rfl,HB1.o⟩
end Go.Proofs.YtcemlhbfemenpaaGreatDoor
