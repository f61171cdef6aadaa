/- Several texts laid into one: The contract of the reference's limbs; The contract of strconv.Itoa, and the table that it reads; The contract of the reference's digits; -/
import Derived.Test.YtcemlhbfemenpaaGreatDoorNumB
import Derived.Test.YtcemlhbfemenpaaGreatDoorShAtoi
import Derived.Test.YtcemlhbfemenpaaGreatDoorShItoa
import Derived.Lib.AppendIntMem
import Derived.Test.YtcemlhbfemenpaaGreatDoorShRep
set_option maxHeartbeats 8000000
set_option maxRecDepth 100000
namespace Go.Proofs.YtcemlhbfemenpaaGreatDoor
open Go.RowKit Go.Dw
theorem bytesWorld_below (w:World)(e:TypeId)(s:ByteArray):Below w.heap.size w (Lib.bytesWorld w e s):=
 ⟨rfl,rfl,rfl,by rw[Lib.bytesWorld_size];omega,fun k hk=>Lib.bytesWorld_at_old w e s k hk⟩
theorem Zfa (s:ByteArray)(w:World)(hn:s.data.toList≠ [])(h:s.data.toList.all isD=true)(hs:s.size≤18):
  Calls Tryz.prog 136 #[.string s] w fun e w'=>e= .returned (.tuple #[.int .i64 (Z0e s.data.toList:Int),.nilIface])∧Below w.heap.size w w':=
 (Any.strconv_Atoi Tryz.lays172 s _ hs (atoi_val hn h) w).mono fun _ _ ⟨h1,t,h2⟩=>⟨h1,by rw[h2];exact bytesWorld_below w _ t⟩
theorem Z5h (s:ByteArray)(a b:Nat):(s.extract a b).data.toList=(s.data.toList.take b).drop a:=by
 rw[ByteArray.data_extract,Array.toList_extract,List.extract_eq_drop_take',List.drop_take,List.take_drop];try rw[List.drop_take]
def LimF (n:Nat)(w:World)(e:Ending)(w':World):Prop:=∃v,e= .returned v∧Z05 w' v n∧FrB w.heap.size v∧Below w.heap.size w w'
def LmI (w wr:World)(s t:ByteArray)(A:Option Addr)(c:Nat)(p:List Nat):Prop:=
 (Ds L4 p∧val L4 p+L4 ^ p.length*Z0e t.data.toList=Z0e s.data.toList∧t.data.toList.all isD=true∧p.length+t.size≤s.size)∧wr.ownsRow w.heap.size 3 1 (.slice A p.length c) p.length (nc p)∧Below w.heap.size w wr
theorem Z2q (s:ByteArray)(w:World)(hd:s.data.toList.all isD=true)(hs:s.size≤1000000):
  Calls Tryz.prog 96 #[.string s] w (LimF (Z0e s.data.toList) w):=by
 obtain⟨ii,hii,hzi0,hzi1,hzi2⟩:=info_parts Zda;have HD:=Za hd;clear hd;go_enter Tryz.func96,Tryz.ntmps96;go_wp2_with fail
 go_loopw [0,3] (fun sv ov wr=>∃(t:ByteArray) (p:List Nat) (A5:Option Addr) (c5:Nat),sv= .string t∧t.size≤1000000∧ov= .slice A5 p.length c5∧Hid (LmI w wr s t A5 c5 p)) (fun sv _ _=>match sv with| .string t=>t.size|_=>0)
 case atStart=>exact⟨s,[],none,0,rfl,hs,rfl,⟨Ds.nil,by simp[val],HD.o,by simp⟩,World.ownsRow_nil _ _ _ _,Zm _ _⟩
 case round=>
  obtain⟨t,p,A5,c5,rfl,ht,rfl,HI⟩:=hrel;by_cases h0:t.size=0
  · have HO:=Za HI.o.2.1;have HB:=Za HI.o.2.2;have hpl:p.length≤1000000:=(by have:=HI.o.1.2.2.2;omega);have HV:Hid (val L4 p=Z0e s.data.toList):=(by have:=HI.o.1.2.1;have e:t.data.toList= []:=Zk (by rw[Zo];exact h0);rw[e]at this;rw[show Z0e []=0 from rfl,Nat.mul_zero,Nat.add_zero]at this;exact this);have HTR:=Za (Z2k A5 c5 p wr (Rd.of_own HO.o) (by omega) (Z13 HO.o).1 (Z13 HO.o).2.1 (Z13 HO.o).2.2);have HDP:=Za HI.o.1.1;clear HI;have hd0:decide ((0:Int)<(t.size:Int))=false:=decide_eq_false (by omega);have hd1:¬0<t.size:=(by omega);go_wp2_with fail;refine HTR.o.mono ?_;rintro e w' ⟨rfl,rfl⟩;go_wp2_with fail;go_ret;refine⟨_,rfl, ?_,⟨fun b hb=>(HO.o.lt b (by cases A5<;>exact hb)).1,fun n c h=>by injection h with h1 h2 h3;subst h3;exact(Z13 HO.o).2.2 h1⟩,HB.o⟩;have:=Z1l (c:=c5) (RdN.of_own HO.o) HDP.o;rw[HV.o]at this;exact this
  ·
   have hd0:decide ((0:Int)<(t.size:Int))=true:=decide_eq_true (by omega);have h1:0<t.size:=(by omega);have HO:=Za HI.o.2.1;have HB:=Za HI.o.2.2;have hpl:p.length≤1000000:=(by have:=HI.o.1.2.2.2;omega);obtain⟨K,hK⟩:∃K:Nat,K=t.size - 4:=⟨_,rfl⟩;have hmx:max (0:Int) ((t.size:Int) - 4)=(K:Int):=(by omega);have hkt:K<t.size:=(by omega);have hk4:t.size - K≤4:=(by omega);have htl:t.data.toList.length=t.size:=(by rw[Zo];rfl);have hx1:(t.extract K t.size).data.toList=t.data.toList.drop (t.data.toList.length - 4):=(by rw[Z5h,Zl (by omega),hK,htl]);have hx2:(t.extract 0 K).data.toList=t.data.toList.take (t.data.toList.length - 4):=(by rw[Z5h,List.drop_zero,hK,htl]);have hxs:(t.extract 0 K).size=K:=by have:(t.extract 0 K).data.toList.length=(t.extract 0 K).size:=(by rw[Zo];rfl);rw[←this,hx2,List.length_take,htl];omega
   have HAT:=Za (Zfa (t.extract K t.size) wr (by rw[hx1];intro e;have:=congrArg List.length e;rw[List.length_drop]at this;simp at this;omega) (by rw[hx1];exact Z6w HI.o.1.2.2.1 _) (by
    have:(t.extract K t.size).data.toList.length=(t.extract K t.size).size:=by rw[Zo];rfl
    rw[←this,hx1,List.length_drop];omega))
   obtain⟨d,hd⟩:∃d,d=Z0e (t.extract K t.size).data.toList:=⟨_,rfl⟩;have hdl:d<L4:=by rw[hd,hx1];exact lmb_lt HI.o.1.2.2.1
   have HNX:Hid (∀W (g8 cap8:Nat) (w8:World),Below wr.heap.size wr W→w8.ownsRow w.heap.size 3 1 (.slice (some ⟨g8,0,none⟩) (p.length+1) cap8) (p.length+1) (nc p++ [.int .i64 (d:Int)])→(W.alloc (.cells #[.int .i64 (d:Int)] 3)).grownBy w8 (Value.slice A5 p.length c5).ownBlock→
     LmI w w8 s (t.extract 0 K) (some ⟨g8,0,none⟩) cap8 (p++ [d])):=fun W g8 cap8 w8 hW h1 h2=>by
    obtain⟨q1,q2,q3,q4⟩:=HI.o.1;refine⟨⟨q1.app (by intro x hx;simp at hx;subst hx;exact hdl), ?_, ?_, ?_⟩, ?_, ?_⟩
    · rw[hx2,hd,hx1];exact lmb_step q2
    · rw[hx2];exact Z9y q3 _
    · rw[hxs,Zj];simp only[List.length_singleton];omega
    · rw[Z44,Zj];exact h1
    · have hb:=HB.o.trans (hW.mono HB.o.size);exact Below.grown (hb.alloc hb.size _) h2 (by simp;have:=hb.size;omega) (fun b hb=>(HO.o.lt b hb).1)
   have hszr:=HB.o.size;clear hx1 hx2 hK hkt hk4 htl HI;rw[←hd]at HAT;have d63:(d:Int)<10000:=(by have:L4=10000:=rfl;omega);clear hd hdl;go_wp2_with fail;refine HAT.o.mono ?_;rintro e w2 ⟨rfl,hb2⟩;have HB2:=Za hb2;have HOA:=Za ((Z04 HO.o hb2).alloc (.cells #[.int .i64 (d:Int)] 3));have hsz2:w.heap.size≤w2.heap.size:=(by have:=hb2.size;omega);clear hb2 HAT;go_wp2_with (at_builtin;refine wpList_append_lies _ rfl _ _ 65 rfl w.heap.size 3 ii _ 1 8 Tryz.underlying65 hii hzi0 hzi1 hzi2 rfl (by decide) _ _ _ rfl HOA.o ⟨w2.heap.size,0,none⟩ 1 1 [.int .i64 (d:Int)] (by rfl) (by rfl) (World.news_of_block (cs:= #[.int .i64 (d:Int)]) (t:=3) (fr:=(0,0)) (heap_alloc_new w2 _)) (by simp[Value.oneCell']) (by decide) (by unfold maxLen;omega) (by omega) (by simp;omega) (w2.heap.size+1) (by simp) ?_;intro g8 cap8 w8 hown8 hgrow8 hat8 hlt8;have HF8:=Za (HNX.o w2 _ _ _ HB2.o hown8 hgrow8);clear hown8 hgrow8 hat8 hlt8);go_roundw
   case rel=>exact⟨t.extract 0 K,p++ [d],_,_,rfl,by omega,by rw[Zj];rfl,HF8⟩
   case measure=>simp;omega
def HasPow (w:World):Prop:=Lib.TabIs Tryz.prog w "internal/strconv.uint64pow10" .u64 Lib.pow10Tab
theorem HasPow.below {w w':World}(h:HasPow w)(hb:Below w.heap.size w w'):HasPow w':=Lib.tabBelow_of_tabIs h w' hb
theorem Z8s (m:Int)(w:World)(hm:Z0l m)(hp:HasPow w):
  Calls Tryz.prog 70 #[.int .i64 m] w fun e w'=>e= .returned (.string ⟨(Lib.itoa m).toArray⟩)∧Below w.heap.size w w':=
 (Any.strconv_Itoa Tryz.laysM171 m hm.1 hm.2 w hp).mono fun _ w' ⟨h1,k,os,h2⟩=>⟨h1,by rw[h2];exact Lib.below_grow _ w (Zh _) k os⟩
theorem Zfb (m:Nat)(w:World)(hm:m<9223372036854775807)(hp:HasPow w):
  Calls Tryz.prog 70 #[.int .i64 (m:Int)] w fun e w'=>e= .returned (.string ⟨(Lib.decDigits m).toArray⟩)∧Below w.heap.size w w':=by
 have:=Z8s (m:Int) w ⟨by omega,by omega⟩ hp;rw[show Lib.itoa (m:Int)=Lib.decDigits m by simp[Lib.itoa]]at this;exact this
theorem txt4_top {l:List Nat}{k:Nat}(h:l.length=k+1):Zbn (l.drop k)=Lib.decDigits (l.getD k 0):=by
 rw[List.drop_eq_getElem_cons (by omega),List.drop_of_length_le (by omega),Zg,Zi (by omega)];simp[Zbn]
theorem Zfc {l:List Nat}{i:Nat}(h:i+1<l.length):Zbn (l.drop i)=Zbn (l.drop (i+1))++Zd3 (l.getD i 0):=by
 rw[List.drop_eq_getElem_cons (by omega:i<l.length),Zg,Zi (by omega)];have hne:(l.drop (i+1)).reverse≠ []:=by intro e;have:=congrArg List.length e;simp at this;omega
 unfold Zbn;rw[List.reverse_cons];cases hr:(l.drop (i+1)).reverse with
 |nil=>exact absurd hr hne
 |cons t r=>simp[List.flatMap_append]
theorem txt4_len:∀(l:List Nat),Ds L4 l→(Zbn l).length≤4*l.length+1:=fun l h=>by
 unfold Zbn;cases hr:l.reverse with
 |nil=>simp
 |cons t r=>
  have hl:l=r.reverse++ [t]:=by rw[←List.reverse_reverse l,hr];simp
  obtain⟨f1,_⟩:=flat4 r (fun x hx=>h x (by rw[hl];simp[hx]));have ht:t<L4:=h t (by rw[hl];simp);have:=Z3s 4 t (by omega) ht;simp only[Zj,f1];rw[hl];simp;omega
theorem rep48:∀c,Lib.repeatL [48] c=List.replicate c 48
 |0=>rfl
 |c+1=>by rw[Lib.repeatL,rep48 c];rfl
theorem ext105:Builder.Extra Tryz.prog Tryz.lays105_ren where
 sizeBuilder:=by kernel_rfl
 liesBuilder:=by kernel_rfl
 t5:=Tryz.underlying5
 a5:=Tryz.isAgg5
 z5:=Tryz.sizeOf5
 v5:=Tryz.zeroValue5
 infoByte:=by kernel_rfl
 cellsByte:=by kernel_rfl
 sizeByte:=by kernel_rfl
 neB5:=by decide
theorem rep_any (c:Nat)(w:World)(hc:c≤10000000):
  Calls Tryz.prog 135 #[.string ⟨#[48]⟩,.int .i64 (c:Int)] w fun e w'=>e= .returned (.string ⟨(List.replicate c (48:UInt8)).toArray⟩)∧Below w.heap.size w w':=by
 have:=Any.strings_Repeat Tryz.lays105 ext105 ⟨#[48]⟩ c w (by omega) (by show 1*c≤_;omega);rw[show Lib.repeatL (⟨#[48]⟩:ByteArray).data.toList c=List.replicate c 48 from rep48 c]at this;exact this
def Zb9 (l:List UInt8)(w:World)(e:Ending)(w':World):Prop:=e= .returned (.string ⟨l.toArray⟩)∧Below w.heap.size w w'
theorem Z5i (x:List UInt8):(⟨x.toArray⟩:ByteArray).size=x.length:=by
 show x.toArray.size=_;simp
theorem Z2y (v:Value)(n:Nat)(w:World)(h:Z05 w v n)(k:Nat)(hk:Lim k n)(hk2:k≤1000000)(hp:HasPow w):
  Calls Tryz.prog 95 #[v] w (Zb9 (Lib.decDigits n) w):=by
 obtain⟨A,c,l,rfl,hr,hn,rfl⟩:=h;have hL:=Lim.len4 hn hk;have HT:=Za (txt4_dec hn);rw[←HT.o];have HR:=Za hr.1;have HDl:=Za hn.1;have HP:=Za hp;clear hr hn hk hp HT;by_cases h0:l.length=0
 · have hl:l= []:=Zk h0;subst hl;go_enter Tryz.func95,Tryz.ntmps95;go_wp2_with fail;go_ret;exact⟨rfl,Zm _ _⟩
 obtain⟨K,hK⟩:∃K,l.length=K+1:=⟨l.length - 1,by omega⟩;have HK:=Za hK;obtain⟨b1,o1,rfl,hb1,hc1⟩:=Z1v HR.o (by omega);have d1:=hc1 K (by omega);have hz:((l.length:Int)==0)=false:=by rw[beq_eq_false_iff_ne];omega
 have t0:=txt4_top hK;have i0:IntKind.i64.wrap ((l.length:Int) - 1)=(K:Int):=by rw[hK,show(((K+1:Nat):Int) - 1)=(K:Int) by omega];exact IntWalk.i64_in _ (by omega)
 have i1:IntKind.i64.wrap ((l.length:Int) - 2)=(K:Int) - 1:=by rw[hK,show(((K+1:Nat):Int) - 2)=(K:Int) - 1 by omega];exact IntWalk.i64_in _ (by omega)
 have i2:(K:Int)<(l.length:Int):=by omega
 have i3:(0:Int)≤(K:Int):=by omega
 have HIT:Hid (∀W j,Below w.heap.size w W→Calls Tryz.prog 70 #[.int .i64 (l.getD j 0:Nat)] W fun e w'=>e= .returned (.string ⟨(Lib.decDigits (l.getD j 0)).toArray⟩)∧Below W.heap.size W w'):=fun W j hW=>by have q1:=HDl.o.getD (by decide) j;have q2:L4=10000:=rfl;rw[q2]at q1;exact Zfb _ W (by omega) (HP.o.below hW)
 have HI0:=Za (HIT.o w K (Zm _ _));have HC1:=Za hc1;have HT0:Hid (Lib.decDigits (l.getD K 0)=Zbn (l.drop K)):=t0.symm;clear hc1 t0;generalize l.getD K 0=dK at*;clear hK h0;go_enter Tryz.func95,Tryz.ntmps95;go_wp2_with fail;refine HI0.o.mono ?_;rintro e w2 ⟨rfl,hb2⟩;rw[HT0.o];have HB2:=Za hb2;clear hb2 HI0;go_wp2_with fail
 go_loopw [3,4,5] (fun sv iv _ wr=>∃i:Nat,i≤K∧iv= .int .i64 ((i:Int) - 1)∧sv= .string ⟨(Zbn (l.drop i)).toArray⟩∧Hid (Below w.heap.size w wr)) (fun _ iv _ _=>(intOf iv+1).toNat)
 case atStart=>exact⟨K,Zh _,by go_num,rfl,HB2⟩
 case round=>
  clear HB2;obtain⟨i,hi,rfl,rfl,HB⟩:=hrel;cases i with
  |zero=>
   rw[List.drop_zero];go_wp2_with fail;go_ret;exact⟨rfl,HB.o⟩
  |succ i=>
   have x1:=HDl.o.getD (by decide) i;have HST:=Za (Zfc (l:=l) (i:=i) (by have:=HK.o;omega));obtain⟨x,hx⟩:∃x,l.getD i 0=x:=⟨_,rfl⟩;have d2:wr.cell? ⟨b1,o1+i,none⟩=some (.int .i64 (x:Int)):=(by rw[←hx,HB.o.cell (by exact hb1)];exact HC1.o i (by have:=HK.o;omega));have HIX:=Za (HIT.o wr i HB.o);rw[hx]at x1 HST HIX;clear hx;have hxl:=Z3s 4 x (by omega) x1;obtain⟨P,hP⟩:∃P,P=Lib.decDigits x:=⟨_,rfl⟩;have HPD:Hid (Zd3 x=List.replicate (4 - P.length) 48++P):=(by show _=_;rw[hP];rfl);have hTL:=txt4_len (l.drop (i+1)) (fun d hd=>HDl.o d (List.drop_subset _ _ hd));rw[List.length_drop]at hTL;rw[←hP]at HIX hxl;obtain⟨r,hr⟩:∃r:Nat,r=4 - P.length:=⟨_,rfl⟩;rw[←hr]at HPD;have W0:((⟨P.toArray⟩:ByteArray).size:Int)=(P.length:Int):=(by rw[Z5i]);have W1:IntKind.i64.wrap (4 - (P.length:Int))=(r:Int):=(by rw[show(4:Int) - (P.length:Int)=(r:Int) by omega];exact IntWalk.i64_in _ (by omega));have j0:decide ((0:Int)≤(i:Int)+1 - 1)=true:=decide_eq_true (by omega);have j1:(i:Int)+1 - 1=(i:Int):=(by omega);have j2:(i:Int)<(l.length:Int):=(by have:=HK.o;omega);have j3:(0:Int)≤(i:Int):=(by omega);have hr4:r≤4:=(by omega);clear hP hr x1;go_wp2_with fail;refine HIX.o.mono ?_;rintro e w3 ⟨rfl,hb3⟩;have HB3:=Za (HB.o.trans (hb3.mono HB.o.size));clear hb3 HIX HB d2;go_wp2_with fail;refine(rep_any r w3 (by omega)).mono ?_;rintro e w4 ⟨rfl,hb4⟩;have HB4:=Za (HB3.o.trans (hb4.mono HB3.o.size));have e3:((⟨(Zbn (l.drop (i+1))).toArray⟩:ByteArray)++((⟨Array.replicate r 48⟩:ByteArray)++⟨P.toArray⟩))=⟨(Zbn (l.drop i)).toArray⟩:=(by rw[HST.o,HPD.o];apply Z1w;simp);clear hb4 HB3;go_wp2_with fail;go_roundw
   case rel=>exact⟨i,by omega,by go_num,rfl,HB4⟩
   case measure=>simp[intOf]
end Go.Proofs.YtcemlhbfemenpaaGreatDoor
