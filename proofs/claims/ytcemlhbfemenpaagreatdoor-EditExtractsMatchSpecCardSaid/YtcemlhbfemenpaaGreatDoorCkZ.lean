/- Several texts laid into one: The contract of the reference's number: a whole number without a needless 0; The contract of the reference's CheckRatio; -/
import Derived.Test.YtcemlhbfemenpaaGreatDoorLmbY
set_option maxHeartbeats 8000000
set_option maxRecDepth 100000
namespace Go.Proofs.YtcemlhbfemenpaaGreatDoor
open Go.RowKit Go.Dw
theorem Z66 (s:ByteArray)(w:World)(hs:s.size≤9223372036854775807):
  Calls Tryz.prog 139 #[.string s] w fun e w'=>e= .returned (.bool (noZ s.data.toList))∧w=w':=by
 by_cases hz:s.size=0
 · have e2:(s.toList== [])=true:=(by rw[ByteArray.toList_eq,s0_of hz];rfl);have HE:Hid (noZ s.data.toList=false):=(by show _=_;rw[s0_of hz];rfl);go_enter Tryz.func139,Tryz.ntmps139;go_wp2_with fail;go_ret;exact⟨Z0a HE.o.symm,rfl⟩
 have hp:0<s.size:=by omega
 have e2:(s.toList== [])=false:=by rw[ByteArray.toList_eq,beq_eq_false_iff_ne];exact fun e=>hz (by rw[Z1w (a:=s) (b:=⟨#[]⟩) e];rfl)
 have HNE:Hid (s.data.toList≠ []):=fun e=>by have:=congrArg List.length e;rw[Zo]at this;exact hz this
 by_cases hbad:1<s.size∧(s[0]'hp).toNat=48
 · obtain⟨h1,h48⟩:=hbad;have e3:(((s[0]'hp).toNat:Int)==48)=true:=(by simp[h48]);have hd1:decide (1<s.size)=true:=(by simpa using h1);have HE:Hid (noZ s.data.toList=false):=Za0 (by rw[head_of hp,(Zd9 _).2 h48]) (fun e=>by have:=congrArg List.length e;rw[Zo]at this;have h2:s.size=1:=this;omega);clear h48;go_enter Tryz.func139,Tryz.ntmps139;go_wp2_with fail;go_ret;exact⟨Z0a HE.o.symm,rfl⟩
 have HOK:Hid (s.data.toList.all isD=true→noZ s.data.toList=true):=fun hall=>by
  by_cases h48:(s[0]'hp).toNat=48
  ·
   have h1:s.size=1:=by
    by_cases h:1<s.size
    · exact absurd ⟨h,h48⟩ hbad
    · omega
   rw[s1_of h1 (fun h=>(Zd9 _).2 h48)];rfl
  · exact noZ_ok hall HNE.o (by rw[head_of hp];intro e;injection e with e;exact h48 ((Zd9 _).1 e))
 have HEND:∀(Q:Prop),True:=fun _=>trivial;have hstart:(1<s.size→(((s[0]'hp).toNat:Int)==48)=false):=fun h=>by simp;intro e;exact hbad ⟨h,by omega⟩
 clear HEND;by_cases h1:1<s.size
 ·
  have hd1:decide (1<s.size)=true:=by simpa using h1
  have e3:=hstart h1;clear hstart hbad;go_enter Tryz.func139,Tryz.ntmps139;go_wp2_with fail
  go_loop [3] (fun i=>∃k:Nat,k≤s.size∧i= .int .i64 k∧Hid ((s.data.toList.take k).all isD=true)) (fun i=>s.size - (intOf i).toNat)
  case atStart=>exact⟨0,Nat.zero_le _,rfl,by simp[Hid]⟩
  case round=>
   obtain⟨k,hk,rfl,HALL⟩:=hrel;by_cases hlt:k<s.size
   case neg=>
    have hd:decide (k<s.size)=false:=by simpa using hlt
    have HE:Hid (noZ s.data.toList=true):=HOK.o (by
     have:=HALL.o
     rwa [Zl (by rw[Zo];show s.size≤k;omega)]at this)
    clear HALL;go_wp2_with fail;go_ret;exact⟨Z0a HE.o.symm,rfl⟩
   have hd:decide (k<s.size)=true:=(by simpa using hlt);have HS:=Za (Z6z s k hlt);cases hv:isD s[k]with
   |true=>
    have HV:Hid ((s.data.toList.take (k+1)).all isD=true):=(by show _=_;rw[HS.o,HALL.o,hv];rfl);obtain⟨g1,g2⟩:=Z6d hv;clear hv;have g1':(48:Int)≤(s[k].toNat:Int):=(by omega);have g2':(s[k].toNat:Int)≤57:=(by omega);go_wp2_with fail
    go_round
    case rel=>exact⟨k+1,by omega,by go_num,HV⟩
    case measure=>simp[intOf];omega
   |false=>
    have HE:Hid (noZ s.data.toList=false):=Z6y (Z5n s k hlt hv);have hcs:s[k].toNat<48∨57<s[k].toNat:=(by unfold isD at hv;simp at hv;omega);clear hv;rcases hcs with g1|g1
    · have g1':(s[k].toNat:Int)<48:=(by omega);go_wp2_with fail;go_ret;exact⟨Z0a HE.o.symm,rfl⟩
    · have g1':(57:Int)<(s[k].toNat:Int):=(by omega);have g2':(48:Int)≤(s[k].toNat:Int):=(by omega);go_wp2_with fail;go_ret;exact⟨Z0a HE.o.symm,rfl⟩
 ·
  have hd1:decide (1<s.size)=false:=by simpa using h1
  clear hstart hbad;go_enter Tryz.func139,Tryz.ntmps139;go_wp2_with fail
  go_loop [3] (fun i=>∃k:Nat,k≤s.size∧i= .int .i64 k∧Hid ((s.data.toList.take k).all isD=true)) (fun i=>s.size - (intOf i).toNat)
  case atStart=>exact⟨0,Nat.zero_le _,rfl,by simp[Hid]⟩
  case round=>
   obtain⟨k,hk,rfl,HALL⟩:=hrel;by_cases hlt:k<s.size
   case neg=>
    have hd:decide (k<s.size)=false:=by simpa using hlt
    have HE:Hid (noZ s.data.toList=true):=HOK.o (by
     have:=HALL.o
     rwa [Zl (by rw[Zo];show s.size≤k;omega)]at this)
    clear HALL;go_wp2_with fail;go_ret;exact⟨Z0a HE.o.symm,rfl⟩
   have hd:decide (k<s.size)=true:=(by simpa using hlt);have HS:=Za (Z6z s k hlt);cases hv:isD s[k]with
   |true=>
    have HV:Hid ((s.data.toList.take (k+1)).all isD=true):=(by show _=_;rw[HS.o,HALL.o,hv];rfl);obtain⟨g1,g2⟩:=Z6d hv;clear hv;have g1':(48:Int)≤(s[k].toNat:Int):=(by omega);have g2':(s[k].toNat:Int)≤57:=(by omega);go_wp2_with fail
    go_round
    case rel=>exact⟨k+1,by omega,by go_num,HV⟩
    case measure=>simp[intOf];omega
   |false=>
    have HE:Hid (noZ s.data.toList=false):=Z6y (Z5n s k hlt hv);have hcs:s[k].toNat<48∨57<s[k].toNat:=(by unfold isD at hv;simp at hv;omega);clear hv;rcases hcs with g1|g1
    · have g1':(s[k].toNat:Int)<48:=(by omega);go_wp2_with fail;go_ret;exact⟨Z0a HE.o.symm,rfl⟩
    · have g1':(57:Int)<(s[k].toNat:Int):=(by omega);have g2':(48:Int)≤(s[k].toNat:Int):=(by omega);go_wp2_with fail;go_ret;exact⟨Z0a HE.o.symm,rfl⟩
theorem Z7o (w:World):Z05 (w.alloc (.cells #[.int .i64 1] 3)) (.slice (some ⟨w.heap.size,0,none⟩) 1 1) 1:=
 ⟨_,_,[1],rfl,RdN.of_blk (Blk.new w 3 (nc [1])),⟨by intro d hd;simp at hd;subst hd;decide,by decide⟩,by simp[val]⟩
def sRf (l:List UInt8):List UInt8:=if 1<l.length∧l.head? =some 45∧l≠ [45,48]then l.drop 1 else l
theorem Zfd (l:List UInt8):Lib.hasPrefix l [45]=decide (l.head? =some 45):=by
 cases l with
 |nil=>rfl
 |cons x r=>
  by_cases h:x=45
  · subst h;simp[Lib.hasPrefix,List.isPrefixOf]
  · simp[Lib.hasPrefix,List.isPrefixOf,h];exact fun e=>h e.symm
theorem Zba (s:ByteArray):boT s=if s.data.toList.head? =some 45 then s.data.toList.drop 1 else s.data.toList:=by
 unfold boT Lib.trimPrefix;rw[Zfd];by_cases h:s.data.toList.head? =some 45
 · rw[if_pos (by simpa using h),if_pos h];rfl
 · rw[if_neg (by simpa using h),if_neg h]
theorem noZ_45 (r:List UInt8):noZ (45::r)=false:=Z6y (by simp[isD])
theorem Zfe (s d:ByteArray):(noZ (sRf s.data.toList) && noZ d.data.toList && !decide (d.data.toList= [48]))=Z8x s d∧(noZ (sRf s.data.toList)=true→sRf s.data.toList=boT s):=by
 have hs:sgT s=decide (s.data.toList.head? =some 45):=Zfd _;unfold Z8x;rw[hs,Zba];generalize s.data.toList=l;unfold sRf;by_cases h45:l.head? =some 45
 ·
  rw[if_pos h45]
  obtain⟨r,rfl⟩:∃r,l=45::r:=by
   cases l with
   |nil=>simp at h45
   |cons x r=>simp at h45;exact⟨r,by rw[h45]⟩
  by_cases h1:1<(45::r).length∧(45::r).head? =some 45∧(45::r)≠ [45,48]
  · rw[if_pos h1];have hr:r≠ [48]:=fun e=>h1.2.2 (by rw[e]);refine⟨?_,fun _=>rfl⟩;simp[hr]
  ·
   rw[if_neg h1,noZ_45];refine⟨?_,fun h=>by cases h⟩;cases r with
   |nil=>simp[Zcu]
   |cons y r2=>
    have:y::r2= [48]:=(by refine Classical.byContradiction fun hn=>h1 ⟨by simp,rfl,fun e=>hn ?_⟩;injection e);rw[List.drop_one,List.tail_cons,this];simp
 · rw[if_neg h45,if_neg (fun h=>h45 h.2.1)];refine⟨?_,fun _=>rfl⟩;simp[h45]
theorem fin_ck {w w1 W:World}{p:Prop}(h:Below w.heap.size w w1)(g:p∧Gq w1 W):Below w.heap.size w W:=h.trans (Below.mono g.2 h.size)
theorem ckR_any (num den:ByteArray)(w:World)(hs:num.size≤9223372036854775807)(hs2:den.size≤9223372036854775807):
  Calls Tryz.prog 101 #[.agg #[.string num,.string den]] w fun e w'=>e= .returned (.int .i64 (Z2h num den))∧Below w.heap.size w w':=by
 obtain⟨w1,hw1⟩:∃w1,w1=w.alloc (.cells #[.string num,.string den] 59):=⟨_,rfl⟩;have HB:Hid (Below w.heap.size w w1):=by rw[hw1];exact(Zm _ _).alloc (Zh _) _
 have HK:Hid (Blk w1 w.heap.size 59 [.string num,.string den]):=by rw[hw1];exact Blk.new w _ _
 have c0:w1.cell? ⟨w.heap.size,0,none⟩=some (.string num):=HK.o.cell 0;have c1:w1.cell? ⟨w.heap.size,1,none⟩=some (.string den):=HK.o.cell 1;obtain⟨f1,f2⟩:=Zfe num den;obtain⟨n,hn⟩:∃n:ByteArray,n=⟨(sRf num.data.toList).toArray⟩:=⟨_,rfl⟩;have hnl:n.data.toList=sRf num.data.toList:=by rw[hn]
 rw[←hnl]at f1 f2
 have hnsz:n.size≤num.size:=by
  have h1:n.data.toList.length=n.size:=by rw[Zo];rfl
  have h2:num.data.toList.length=num.size:=by rw[Zo];rfl
  rw[←h1,hnl,←h2];unfold sRf
  split
  · rw[List.length_drop];omega
  · exact Zh _
 have HD1:=Za (Z66 n w1 (by omega));have HD2:=Za (Z66 den w1 hs2);go_enter Tryz.func101,Tryz.ntmps101;go_upto_region 1 with(fail);rw[←hw1];have HW:=Za hw1;have HF:=Za (And.intro f1 f2);have HN:Hid (n=⟨(sRf num.data.toList).toArray⟩):=hn;have HNL:=Za hnl;clear hw1 f1 f2 hn hnl;obtain⟨cb,hcb⟩:∃b,decide (1<num.data.toList.length∧num.data.toList.head? =some 45∧num.data.toList≠ [45,48])=b:=⟨_,rfl⟩;have hll:num.data.toList.length=num.size:=by rw[Zo];rfl
 go_upto_region 2 with(fail)
 go_cut [17] (fun v wx=>v= .bool cb∧w1=wx)
 case first=>
  by_cases h1:1<num.size
  case neg=>
   have HE:Hid (cb=false):=(by show _=_;rw[←hcb,decide_eq_false_iff_not,hll];exact fun h=>h1 h.1);clear hcb;have hd0:decide (1<num.size)=false:=(by simpa using h1);go_wp2_with fail;go_meet
   case rel=>exact⟨by rw[HE.o],rfl⟩
  have hd0:decide (1<num.size)=true:=by simpa using h1
  have hh:num.data.toList.head? =some (num[0]'(by omega)):=by
   cases hq:num.data.toList with
   |nil=>rw[hq]at hll;simp at hll;omega
   |cons x r=>
    have:num.data.toList[0]'(by rw[hq];simp)=num[0]'(by omega):=(by rw[Array.getElem_toList];rfl);rw[←this];simp[hq]
  by_cases h2:num[0]'(by omega)=45
  case neg=>
   have HE:Hid (cb=false):=(by show _=_;rw[←hcb,decide_eq_false_iff_not,hh];exact fun h=>h2 (by injection h.2.1));have h3:(((num[0]'(by omega)).toNat:Int)==45)=false:=(by rw[beq_eq_false_iff_ne];intro e;exact h2 (UInt8.toNat_inj.1 (by have:(45:UInt8).toNat=45:=rfl;omega)));clear hcb hh h2;go_wp2_with fail;go_meet
   case rel=>exact⟨by rw[HE.o],rfl⟩
  have h3:(((num[0]'(by omega)).toNat:Int)==45)=true:=by rw[h2];rfl
  obtain⟨b3,hb3⟩:∃b,(num.toList== [45,48])=b:=⟨_,rfl⟩
  have HE:Hid (cb= !b3):=by
   show _=_;rw[←hcb,←hb3,ByteArray.toList_eq,hh,h2,hll];by_cases hq:num.data.toList= [45,48]
   · simp[hq]
   · rw[decide_eq_true ⟨h1,rfl,hq⟩,beq_eq_false_iff_ne.2 hq];rfl
  clear hcb hh h2;cases b3
  ·
   go_wp2_with fail;go_meet
   case rel=>exact⟨by rw[HE.o];rfl,rfl⟩
  ·
   go_wp2_with fail;go_meet
   case rel=>exact⟨by rw[HE.o];rfl,rfl⟩
 case rest=>
  obtain⟨rfl,rfl⟩:=hcut
  go_upto_if 17 with(fail)
  go_cut [3] (fun v wx=>v= .string n∧w1=wx)
  case first=>
   cases cb
   ·
    have HE:Hid (num=n):=(by show _=_;apply Z1w;rw[HNL.o];unfold sRf;rw[if_neg (of_decide_eq_false hcb)]);clear hcb;go_wp2_with fail;go_meet
    case rel=>exact⟨by rw[HE.o],rfl⟩
   ·
    have hc:=of_decide_eq_true hcb;have h1:1<num.size:=(by rw[←hll];exact hc.1);have HE:Hid (num.extract 1 num.size=n):=(by show _=_;apply Z1w;rw[HNL.o,Z5h,Zl (by omega)];unfold sRf;rw[if_pos hc]);clear hcb hc;go_wp2_with fail;go_meet
    case rel=>exact⟨by rw[HE.o],rfl⟩
  case rest=>
   obtain⟨rfl,rfl⟩:=hcut;clear hcb;obtain⟨b1,hb1⟩:∃b,noZ n.data.toList=b:=⟨_,rfl⟩;obtain⟨b3,hb3⟩:∃b,noZ den.data.toList=b:=⟨_,rfl⟩;obtain⟨b4,hb4⟩:∃b,decide (den.data.toList= [48])=b:=⟨_,rfl⟩;have HFR:Hid (Z8x num den=(b1 && b3 && !b4)):=(by show _=_;rw[←HF.o.1,hb1,hb3,hb4]);have HBT:Hid (b1=true→n.data.toList=boT num):=fun e=>HF.o.2 (by rw[hb1];exact e);have HNB:=Za (And.intro hb1 hb3)
   have e4:(den.toList== [48])=b4:=by
    rw[ByteArray.toList_eq,←hb4];by_cases h:den.data.toList= [48]
    · rw[h];rfl
    · rw[decide_eq_false h,beq_eq_false_iff_ne];exact h
   rw[hb1]at HD1;rw[hb3]at HD2;have HLT:=Za HK.o.lt;clear hb1 hb3 hb4 HF HN HNL HK HW c0 hll;go_wp2_with fail;refine HD1.o.mono ?_;rintro e w' ⟨rfl,hww⟩;subst hww;cases b1
   · have HE:Hid (Z2h num den=3):=Z2w (by rw[HFR.o];rfl);go_wp2_with fail;go_ret;exact⟨Z02 HE.o.symm,HB.o⟩
   go_wp2_with fail;refine HD2.o.mono ?_;rintro e w' ⟨rfl,hww⟩;subst hww;cases b3
   · have HE:Hid (Z2h num den=3):=Z2w (by rw[HFR.o];rfl);go_wp2_with fail;go_ret;exact⟨Z02 HE.o.symm,HB.o⟩
   cases b4
   case true=>have HE:Hid (Z2h num den=3):=Z2w (by rw[HFR.o];rfl);go_wp2_with fail;go_ret;exact⟨Z02 HE.o.symm,HB.o⟩
   have HF:Hid (Z8x num den=true):=(by show _=_;rw[HFR.o];rfl);have HBE:Hid (n.data.toList=boT num):=HBT.o (by first|rfl|trivial);have HNZ:Hid (n.size=(boT num).length):=(by show _=_;rw[←HBE.o,Zo];rfl);have HDZ:Hid (den.data.toList.length=den.size):=(by show _=_;rw[Zo];rfl);clear HFR HBT;by_cases hl1:2000<n.size
   · have HE:Hid (Z2h num den=2):=Z59 HF.o (.inl (by rw[←HNZ.o];exact hl1));have hd1:decide (2000<n.size)=true:=(by simpa using hl1);go_wp2_with fail;go_ret;exact⟨Z02 HE.o.symm,HB.o⟩
   have hd1:decide (2000<n.size)=false:=(by simpa using hl1);by_cases hl2:2000<den.size
   · have HE:Hid (Z2h num den=2):=Z59 HF.o (.inr (by rw[HDZ.o];exact hl2));have hd2:decide (2000<den.size)=true:=(by simpa using hl2);go_wp2_with fail;go_ret;exact⟨Z02 HE.o.symm,HB.o⟩
   have hd2:decide (2000<den.size)=false:=(by simpa using hl2);have HV:=Za (Za6 HF.o (by rw[←HNZ.o,HDZ.o];omega))
   have HLA:Hid (∀W,Calls Tryz.prog 96 #[.string n] W fun e W'=>∃v,e= .returned v∧Z05 W' v (Z0e (boT num))∧Gq W W'):=fun W=>
    (Z2q n W ((Z0p _).1 HNB.o.1).1 (by omega)).mono fun e W' ⟨v,h1,h2,_,h3⟩=>⟨v,h1,by rw[←HBE.o];exact h2,h3⟩
   have HLB:Hid (∀W,Calls Tryz.prog 96 #[.string den] W fun e W'=>∃v,e= .returned v∧Z05 W' v (Z0e den.data.toList)∧Gq W W'):=fun W=>
    (Z2q den W ((Z0p _).1 HNB.o.2).1 (by omega)).mono fun e W' ⟨v,h1,h2,_,h3⟩=>⟨v,h1,h2,h3⟩
   have hla:Lim 2000 (Z0e (boT num)):=(by rw[←HBE.o];exact Z2d ((Z0p _).1 HNB.o.1).1 (by rw[HBE.o,←HNZ.o];omega));have hlb:Lim 2000 (Z0e den.data.toList):=Z2d ((Z0p _).1 HNB.o.2).1 (by rw[HDZ.o];omega);have hdp:0<Z0e den.data.toList:=(Z92 HF.o).2.2.1;obtain⟨x,hx⟩:∃x,Z0e (boT num)=x:=⟨_,rfl⟩;obtain⟨y,hy⟩:∃y,Z0e den.data.toList=y:=⟨_,rfl⟩;obtain⟨G,hG⟩:∃G,Nat.gcd x y=G:=⟨_,rfl⟩;rw[hx]at hla HLA HV;rw[hy]at hlb HLB HV hdp;have HCM:Hid (∀va vb Wa Wb W,Z05 Wa va x→Z05 Wb vb y→Gq Wa W→Gq Wb W→Calls Tryz.prog 128 #[va,vb] W fun e W'=>∃v,e= .returned v∧Z05 W' v G∧Gq W W'):=fun va vb Wa Wb W h1 h2 g1 g2=>(by have:=Z5s va vb x y W (h1.below g1) (h2.below g2) 2000 hla hlb (by omega);rw[hG]at this;exact this);have hl11:Lim 1 1:=(by unfold Lim;rw[Nat.pow_one];decide);have hlg:Lim 2000 G:=(by rw[←hG];exact hlb.le (Nat.le_of_dvd hdp (Nat.gcd_dvd_right _ _)));obtain⟨cr,hcr⟩:∃cr,Z27 G 1=cr:=⟨_,rfl⟩;have HCP:Hid (∀va vb Wa Wb W,Z05 Wa va G→Z05 Wb vb 1→Gq Wa W→Gq Wb W→Calls Tryz.prog 129 #[va,vb] W fun e W'=>e= .returned (.int .i64 cr)∧Gq W W'):=fun va vb Wa Wb W h1 h2 g1 g2=>by have:=Z5a va vb G 1 W (h1.below g1) (h2.below g2) 2000 hlg (hl11.mono (by omega)) (by omega);unfold Z45 at this;rw[hcr]at this;exact this.mono fun e W' ⟨h1,h2⟩=>⟨h1,h2.below⟩
   have HCR:Hid ((cr !=0)= !decide (G=1)):=by
    show _=_;rw[←hcr];rcases Nat.lt_trichotomy G 1 with q|q|q
    · rw[Z1u q,decide_eq_false (by omega)];rfl
    · rw[q,Z2v];rfl
    · rw[Z28 q,decide_eq_false (by omega)];rfl
   obtain⟨gb,hgb⟩:∃b,decide (G=1)=b:=⟨_,rfl⟩;rw[hgb]at HCR
   have HVV:Hid (Z2h num den=if gb=true then 0 else 3):=by
    show _=_;rw[HV.o,←hgb,←hG];by_cases hq:Nat.gcd x y=1
    · rw[if_pos hq,if_pos (decide_eq_true hq)]
    · rw[if_neg hq,if_neg (by rw[decide_eq_false hq];decide)]
   have HS:Hid (∀W,Gq w1 W→W.cell? ⟨w.heap.size,1,none⟩=some (.string den)):=fun W hW=>(by rw[Below.cell hW (by exact HLT.o)];exact c1);have hcrb:=HCR.o;clear hl11 hgb hcr hlg HV hla hlb hdp hx hy hG HNB HDZ HNZ HBE HF;go_wp2_with fail
   go_region_held3 (fun W=>W.cell? ⟨w.heap.size,1,none⟩=some (.string den)∧Gq w1 W)
    (first|(refine⟨HS.o _ ?_, ?_⟩<;>(repeat (first|exact Gq.refl _|assumption|refine Gq.alloc ?_ _|refine Gq.drew ?_|refine Gq.trans ?_ (by assumption)))))
    (first
     |(go_at_call 96;with_reducible refine(HLA.o _).mono ?_;rintro e w' ⟨v,rfl,hva,hga⟩)
     |(go_at_call 96;with_reducible refine(HLB.o _).mono ?_;rintro e w' ⟨v,rfl,hvb,hgb⟩)
     |(go_at_call 128;with_reducible refine(HCM.o _ _ _ _ _ hva hvb ?_ ?_).mono ?_; (repeat (first|exact Gq.refl _|assumption|refine Gq.alloc ?_ _|refine Gq.drew ?_|refine Gq.trans ?_ (by assumption)));rintro e w' ⟨v,rfl,hvc,hgc⟩)
     |(go_at_call 129;with_reducible refine(HCP.o _ _ _ _ _ hvc (Z7o _) ?_ ?_).mono ?_; (repeat (first|exact Gq.refl _|assumption|refine Gq.alloc ?_ _|refine Gq.drew ?_|refine Gq.trans ?_ (by assumption)));rintro e w' ⟨rfl,hgd⟩))
   all_goals
    cases gb
    · have hx:(!(cr==0))=true:=hcrb;go_wp2_with fail;go_ret;exact⟨Z02 HVV.o.symm,fin_ck HB.o (by assumption)⟩
    · have hx:(!(cr==0))=false:=hcrb;go_wp2_with fail;go_ret;exact⟨Z02 HVV.o.symm,fin_ck HB.o (by assumption)⟩
end Go.Proofs.YtcemlhbfemenpaaGreatDoor
