/- Several texts laid into one: The contract of the reference's isName; The contract of the reference's checkClip; The contract of the reference's Check; -/
import Derived.Test.YtcemlhbfemenpaaGreatDoorCliZ
import Derived.Test.YtcemlhbfemenpaaGreatDoorOfZ
import Derived.Test.YtcemlhbfemenpaaGreatDoorOrdZ
set_option maxHeartbeats 16000000
set_option maxRecDepth 100000
namespace Go.Proofs.YtcemlhbfemenpaaGreatDoor
open Go.RowKit Go.Dw
theorem Z9s (s:ByteArray)(w:World)(hs:s.size≤9223372036854775807):
  Calls Tryz.prog 27 #[.string s] w fun e w'=>e= .returned (.bool (Z0r s))∧w=w':=by
 by_cases h0:0<s.size
 case neg=>have hf:Z0r s=false:=(by unfold Z0r;rw[dif_neg h0]);rw[hf];clear hf;obtain⟨e1,e2⟩:=emp_t h0;clear e2;go_enter Tryz.func27,Tryz.ntmps27;go_wp2_with fail;go_ret;exact⟨rfl,rfl⟩
 have e1:=emp_f h0;by_cases h1:40<s.size
 · have hf:Z0r s=false:=(by unfold Z0r;rw[dif_pos h0];simp;intro h;omega);rw[hf];go_enter Tryz.func27,Tryz.ntmps27;go_wp2_with fail;go_ret;exact⟨rfl,rfl⟩
 by_cases h2:(s[0]'h0).toNat<97
 · have hf:Z0r s=false:=(by unfold Z0r;rw[dif_pos h0];simp;intro _ h;omega);rw[hf];have h2':((s[0]'h0).toNat:Int)<97:=(by omega);go_enter Tryz.func27,Tryz.ntmps27;go_wp2_with fail;go_ret;exact⟨rfl,rfl⟩
 by_cases h3:122<(s[0]'h0).toNat
 · have hf:Z0r s=false:=(by unfold Z0r;rw[dif_pos h0];simp;intro _ _ h;omega);rw[hf];have h3':(122:Int)<((s[0]'h0).toNat:Int):=(by omega);go_enter Tryz.func27,Tryz.ntmps27;go_wp2_with fail;go_ret;exact⟨rfl,rfl⟩
 have hf:Z0r s=s.data.toList.all okB:=by rw[←Ze7];unfold Z0r;rw[dif_pos h0];simp[show s.size≤40 by omega,show 97≤(s[0]'h0).toNat by omega,show(s[0]'h0).toNat≤122 by omega]
 have HF:=Za hf;clear hf;have h2':(97:Int)≤((s[0]'h0).toNat:Int):=by omega
 have h3':((s[0]'h0).toNat:Int)≤122:=by omega
 go_enter Tryz.func27,Tryz.ntmps27;go_wp2_with fail
 go_loop [3] (fun i=>∃k:Nat,k≤s.size∧i= .int .i64 k∧Hid ((s.data.toList.take k).all okB=true)) (fun i=>s.size - (intOf i).toNat)
 case atStart=>exact⟨0,Nat.zero_le _,rfl,by simp[Hid]⟩
 case round=>
  obtain⟨k,hk,rfl,HALL⟩:=hrel;by_cases hlt:k<s.size
  case neg=>have hd:decide (k<s.size)=false:=(by simpa using hlt);have HE:Hid (Z0r s=true):=(by show _=_;have:=HALL.o;rw[Zl (by simp;omega)]at this;rw[HF.o,this]);go_wp2_with fail;go_ret;exact⟨Z0a HE.o.symm,rfl⟩
  have hd:decide (k<s.size)=true:=by simpa using hlt
  have HS:=Za (all_succ s k hlt);cases hv:okB s[k]with
  |true=>
   have HV:Hid ((s.data.toList.take (k+1)).all okB=true):=(by show _=_;rw[HS.o,HALL.o,hv];rfl);have hcs:(97≤s[k].toNat∧s[k].toNat≤122)∨(48≤s[k].toNat∧s[k].toNat≤57)∨s[k].toNat=45:=(by unfold okB at hv;simp at hv;omega);clear hv h2 h3 h2' h3';rcases hcs with⟨g1,g2⟩|⟨g1,g2⟩|g1
   ·
    have g1':(97:Int)≤(s[k].toNat:Int):=(by omega);have g2':(s[k].toNat:Int)≤122:=(by omega);go_wp2_with fail
    go_round
    case rel=>exact⟨k+1,by omega,by go_num,HV⟩
    case measure=>simp[intOf];omega
   ·
    have g1':(48:Int)≤(s[k].toNat:Int):=(by omega);have g2':(s[k].toNat:Int)≤57:=(by omega);have g3':(s[k].toNat:Int)<97:=(by omega);go_wp2_with fail
    go_round
    case rel=>exact⟨k+1,by omega,by go_num,HV⟩
    case measure=>simp[intOf];omega
   ·
    have g1':(s[k].toNat:Int)<48:=(by omega);have g3':(s[k].toNat:Int)<97:=(by omega);have g4:((s[k].toNat:Int) !=45)=false:=(by simp;omega);have g5:((s[k].toNat:Int)==45)=true:=(by simp;omega);go_wp2_with fail
    go_round
    case rel=>exact⟨k+1,by omega,by go_num,HV⟩
    case measure=>simp[intOf];omega
  |false=>
   have HE:Hid (Z0r s=false):=(by show _=_;rw[HF.o];exact Ze8 s k hlt hv);have hcs:122<s[k].toNat∨(57<s[k].toNat∧s[k].toNat<97)∨(s[k].toNat<48∧¬s[k].toNat=45):=(by unfold okB at hv;simp at hv;omega);clear hv h2 h3 h2' h3';rcases hcs with g1|⟨g1,g2⟩|⟨g1,g2⟩
   · have g1':(122:Int)<(s[k].toNat:Int):=(by omega);have g4:((s[k].toNat:Int) !=45)=true:=(by simp;omega);have g5:((s[k].toNat:Int)==45)=false:=(by simp;omega);have M0:(97:Int)≤(s[k].toNat:Int):=(by omega);have M1:(48:Int)≤(s[k].toNat:Int):=(by omega);have M2:(57:Int)<(s[k].toNat:Int):=(by omega);have M3:¬(s[k].toNat:Int)≤122:=(by omega);have M4:¬(s[k].toNat:Int)≤57:=(by omega);go_wp2_with fail;go_ret;exact⟨Z0a HE.o.symm,rfl⟩
   · have g1':(57:Int)<(s[k].toNat:Int):=(by omega);have g2':(s[k].toNat:Int)<97:=(by omega);have g4:((s[k].toNat:Int) !=45)=true:=(by simp;omega);have g5:((s[k].toNat:Int)==45)=false:=(by simp;omega);have M0:(48:Int)≤(s[k].toNat:Int):=(by omega);have M1:¬(s[k].toNat:Int)≤57:=(by omega);have M2:¬(97:Int)≤(s[k].toNat:Int):=(by omega);go_wp2_with fail;go_ret;exact⟨Z0a HE.o.symm,rfl⟩
   · have g1':(s[k].toNat:Int)<48:=(by omega);have g2':(s[k].toNat:Int)<97:=(by omega);have g4:((s[k].toNat:Int) !=45)=true:=(by simp;omega);have g5:((s[k].toNat:Int)==45)=false:=(by simp;omega);have M0:¬(48:Int)≤(s[k].toNat:Int):=(by omega);have M1:¬(97:Int)≤(s[k].toNat:Int):=(by omega);go_wp2_with fail;go_ret;exact⟨Z0a HE.o.symm,rfl⟩
theorem or40 (a b:Nat):(if 40<a∨40<b then(2:Int)else 0)=if(decide (40<a)||decide (40<b))=true then 2 else 0:=by
 by_cases h1:40<a<;>by_cases h2:40<b<;>simp[h1,h2]
theorem cliR_any (c:CliM)(tk:Int)(w:World)(h:CliOk w c)(htk:1≤tk∧tk≤16)(hpw:HasPow w):
  Calls Tryz.prog 62 #[c.v,.int .i64 tk] w fun e w'=>e= .returned (.int .i64 (Z3n Z0r tk c.x))∧Below w.heap.size w w':=by
 have HCF:=Za (Zea Z0r tk c.x);have hm:=h.m;have HNF:Hid (Z0r c.m=false→Z3n Z0r tk c.x=5):=fun g=>by unfold Z3n;rw[if_pos (by exact g)]
 have HPW:=Za hpw;obtain⟨xm,xc,xf,xt,xa,cl,⟨A,d,xs⟩⟩:=c;obtain⟨_,i1,i2,i3,i4,i5,hel,her,heo⟩:=h;obtain⟨E0,hE0⟩:∃E,Z3n Z0r tk (CliM.x ⟨xm,xc,xf,xt,xa,cl,⟨A,d,xs⟩⟩)=E:=⟨_,rfl⟩;rw[hE0]at HCF HNF⊢;simp only[CliM.x,CliM.v,Slc.v]at HCF HNF i1 i2 i3 i4 i5 hm hel her heo⊢;obtain⟨i1a,i1b⟩:=i1;obtain⟨i2a,i2b⟩:=i2;obtain⟨i3a,i3b⟩:=i3;obtain⟨i4a,i4b⟩:=i4;obtain⟨i5a,i5b⟩:=i5;obtain⟨tka,tkb⟩:=htk;have HXO:=Za heo;clear hE0 hpw;obtain⟨w1,hw1⟩:∃w1,w1=w.alloc (.cells #[.string xm,.int .i64 xc,.int .i64 xf,.int .i64 xt,.int .i64 xa,.int .i64 cl,.slice A xs.length d] 39):=⟨_,rfl⟩;have HB2:Hid (Below w.heap.size w w1):=by rw[hw1];exact(Zm _ _).alloc (Zh _) _
 have HK:Hid (Blk w1 w.heap.size 39 [.string xm,.int .i64 xc,.int .i64 xf,.int .i64 xt,.int .i64 xa,.int .i64 cl,.slice A xs.length d]):=by rw[hw1];exact Blk.new w _ _
 have a0:w1.cell? ⟨w.heap.size,0,none⟩=some (.string xm):=HK.o.cell 0;have HIN:=Za (Z9s xm w1 hm);have HER:=Za her;have HW:=Za hw1;clear hw1 her heo;go_enter Tryz.func62,Tryz.ntmps62;go_upto_region 1 with(fail);rw[←HW.o];go_wp2_with fail;refine HIN.o.mono ?_;rintro e w' ⟨rfl,hww⟩;subst hww;obtain⟨nb,hnb⟩:∃nb,Z0r xm=nb:=⟨_,rfl⟩;rw[hnb];rw[hnb]at HCF HNF;clear HIN a0 hnb;cases nb
 · have HQ:Hid (E0=5):=HNF.o rfl;go_wp2_with fail;go_ret;exact⟨Z02 HQ.o.symm,HB2.o⟩
 have HEU:Hid ((¬((0≤xc∧xc<16)∧(0≤xf∧xf≤10000000000000)∧(0≤xt∧xt<tk)∧(0≤xa∧xa<100000)∧(1≤cl∧cl≤100000 - xa)∧xf+cl≤10000000000000)→E0=1)∧(((0≤xc∧xc<16)∧(0≤xf∧xf≤10000000000000)∧(0≤xt∧xt<tk)∧(0≤xa∧xa<100000)∧(1≤cl∧cl≤100000 - xa)∧xf+cl≤10000000000000)→E0=Z3r cl xs)):=HCF.o rfl;clear HCF HNF;have HE0:=HEU;clear HEU;have a1:w1.cell? ⟨w.heap.size,1,none⟩=some (.int .i64 xc):=HK.o.cell 1;have a2:w1.cell? ⟨w.heap.size,2,none⟩=some (.int .i64 xf):=HK.o.cell 2;have a3:w1.cell? ⟨w.heap.size,3,none⟩=some (.int .i64 xt):=HK.o.cell 3;have a4:w1.cell? ⟨w.heap.size,4,none⟩=some (.int .i64 xa):=HK.o.cell 4;have a5:w1.cell? ⟨w.heap.size,5,none⟩=some (.int .i64 cl):=HK.o.cell 5;by_cases h1:xc<0
 · have HQ:Hid (E0=1):=HE0.o.1 (by omega);go_wp2_with fail;go_ret;exact⟨Z02 HQ.o.symm,HB2.o⟩
 by_cases h2:15<xc
 · have HQ:Hid (E0=1):=HE0.o.1 (by omega);go_wp2_with fail;go_ret;exact⟨Z02 HQ.o.symm,HB2.o⟩
 by_cases h3:xf<0
 · have HQ:Hid (E0=1):=HE0.o.1 (by omega);go_wp2_with fail;go_ret;exact⟨Z02 HQ.o.symm,HB2.o⟩
 by_cases h4:10000000000000<xf
 · have HQ:Hid (E0=1):=HE0.o.1 (by omega);go_wp2_with fail;go_ret;exact⟨Z02 HQ.o.symm,HB2.o⟩
 by_cases h5:xt<0
 · have HQ:Hid (E0=1):=HE0.o.1 (by omega);go_wp2_with fail;go_ret;exact⟨Z02 HQ.o.symm,HB2.o⟩
 have W0:IntKind.i64.wrap (tk - 1)=tk - 1:=IntWalk.i64_in _ (by omega);by_cases h6:tk - 1<xt
 · have HQ:Hid (E0=1):=HE0.o.1 (by omega);go_wp2_with fail;go_ret;exact⟨Z02 HQ.o.symm,HB2.o⟩
 by_cases h7:xa<0
 · have HQ:Hid (E0=1):=HE0.o.1 (by omega);go_wp2_with fail;go_ret;exact⟨Z02 HQ.o.symm,HB2.o⟩
 by_cases h8:99999<xa
 · have HQ:Hid (E0=1):=HE0.o.1 (by omega);go_wp2_with fail;go_ret;exact⟨Z02 HQ.o.symm,HB2.o⟩
 by_cases h9:cl<1
 · have HQ:Hid (E0=1):=HE0.o.1 (by omega);go_wp2_with fail;go_ret;exact⟨Z02 HQ.o.symm,HB2.o⟩
 have W1:IntKind.i64.wrap (100000 - xa)=100000 - xa:=IntWalk.i64_in _ (by omega);by_cases h10:100000 - xa<cl
 · have HQ:Hid (E0=1):=HE0.o.1 (by omega);go_wp2_with fail;go_ret;exact⟨Z02 HQ.o.symm,HB2.o⟩
 have W2:IntKind.i64.wrap (xf+cl)=xf+cl:=IntWalk.i64_in _ (by omega);by_cases h11:10000000000000<xf+cl
 · have HQ:Hid (E0=1):=HE0.o.1 (by omega);go_wp2_with fail;go_ret;exact⟨Z02 HQ.o.symm,HB2.o⟩
 have W3:IntKind.i64.wrap (cl - 1)=cl - 1:=IntWalk.i64_in _ (by omega);have HB:=HB2;have HR:Hid (Rd w1 A (xs.flatMap Pnt.cs)):=HER.o.below HB.o;have HS:Hid (∀W,Gq w1 W→W.cell? ⟨w.heap.size,5,none⟩=some (.int .i64 cl)∧W.cell? ⟨w.heap.size,6,none⟩=some (.slice A xs.length d)):=fun W hW=>by have k1:=HK.o.same (Same.of_below (S:=fun _=>True) hW) trivial;exact⟨k1.cell 5,k1.cell 6⟩
 have hE:Z3r cl xs=E0:=(HE0.o.2 (by omega)).symm;have HE:Hid ((xs.length=0→E0=9)∧(xs.length≠0→50<xs.length→E0=2)∧(xs.length≠0→¬50<xs.length→(∀k,k<xs.length→(∀j,j<k→Z3i cl xs j=0)→Z3i cl xs k≠0→E0=Z3i cl xs k)∧((∀j,j<xs.length→Z3i cl xs j=0)→E0=0))):=by rw[←hE];unfold Z3r;refine⟨fun h=>by rw[if_pos h],fun h g=>by rw[if_neg h,if_pos g],fun h g=> ?_⟩;rw[if_neg h,if_neg g];exact⟨fun k hk h1 h2=>Z25 h1 h2 hk,fun h1=>Z2i h1⟩
 obtain⟨c5,c6⟩:=HS.o w1 (Gq.refl _);clear hE HER HK HE0 a5;by_cases h0:xs.length=0
 · have HQ:Hid (E0=9):=HE.o.1 h0;rw[h0]at c6;go_wp2_with fail;go_ret;exact⟨Z02 HQ.o.symm,HB.o⟩
 have h0b:((xs.length:Int)==0)=false:=by rw[beq_eq_false_iff_ne];omega
 by_cases h50:50<xs.length
 · have HQ:Hid (E0=2):=HE.o.2.1 h0 h50;have h50b:decide (50<xs.length)=true:=(by simpa using h50);go_wp2_with fail;go_ret;exact⟨Z02 HQ.o.symm,HB.o⟩
 have h50b:decide (50<xs.length)=false:=by simpa using h50
 have HE2:=Za (HE.o.2.2 h0 h50);clear HE;go_wp2_with fail;clear c5 c6 a1 a2 a3 a4
 go_loopw [5] (fun iv wr=>∃k:Nat,k≤xs.length∧iv= .int .i64 (k:Int)∧Hid (∀j,j<k→Z3i cl xs j=0)∧Hid (Gq w1 wr)) (fun iv _=>xs.length - (intOf iv).toNat)
 case atStart=>exact⟨0,Nat.zero_le _,rfl,fun j hj=>by omega,Gq.refl _⟩
 case round=>
  obtain⟨k,hk,rfl,HA,HG⟩:=hrel;obtain⟨s5,s6⟩:=HS.o wr HG.o;by_cases hlt:k<xs.length
  case neg=>have hd:decide (k<xs.length)=false:=(by simpa using hlt);have HQ:Hid (E0=0):=HE2.o.2 (fun j hj=>HA.o j (by omega));go_wp2_with fail;go_ret;exact⟨Z02 HQ.o.symm,HB.o.trans (Below.mono HG.o HB.o.size)⟩
  have hd:decide (k<xs.length)=true:=by simpa using hlt
  obtain⟨b,off,rfl,hb,hc⟩:=Z4a (HG.o.rd HR.o) (by omega);obtain⟨d0,d1,d2⟩:=hc k hlt;have HPV:Hid (0<k→wr.cell? ⟨b,off+(k - 1)*3,none⟩=some (.int .i64 (xs.getD (k - 1) Z0j).at_)):=fun h=>by rw[getD_get (by omega)];exact(hc (k - 1) (by omega)).1
  have HGE:Hid (xs.getD k Z0j=xs[k]):=getD_get hlt;have HPO:=Za (HXO.o _ (Zn hlt));have j0:(0:Int)≤(k:Int):=by omega
  have j1:(k:Int)<(xs.length:Int):=by omega
  have HNX:Hid (Z3i cl xs k=0→∀j,j<k+1→Z3i cl xs j=0):=fun h=>Z56 HA.o h;have HBD:Hid (Z3i cl xs k≠0→E0=Z3i cl xs k):=fun h=>HE2.o.1 k hlt HA.o h;have HPA:Hid (Zaq cl xs k=decide ((xs[k]).at_<0∨cl≤(xs[k]).at_)):=by show _=_;unfold Zaq;rw[HGE.o]
  have HPB:Hid (pntB xs k=decide (0<k∧(xs[k]).at_≤(xs.getD (k - 1) Z0j).at_)):=by show _=_;unfold pntB;rw[HGE.o]
  have HPC:=Za (pntF_c (ln:=cl) (e:=xs) (i:=k));have HPD:=Za (pntF_d (ln:=cl) (e:=xs) (i:=k));rw[HGE.o]at HPC HPD;obtain⟨pt,hpt⟩:∃pt,xs[k]=pt:=⟨_,rfl⟩;rw[hpt]at d0 d1 d2 HPO HPA HPB HPC HPD;clear hc hpt HGE;obtain⟨x,pn,pd⟩:=pt;simp only at d0 d1 d2 HPO HPA HPB HPC HPD;obtain⟨wA,hwA⟩:∃wA,wA=wr.alloc (.cells #[.int .i64 x,.string pn,.string pd] 61):=⟨_,rfl⟩;have HGA:Hid (Gq w1 wA):=by rw[hwA];exact HG.o.alloc _
  have HRA:Hid (Gq wr wA):=by rw[hwA];exact(Gq.refl _).alloc _
  have HKA:Hid (Blk wA wr.heap.size 61 [.int .i64 x,.string pn,.string pd]):=by rw[hwA];exact Blk.new wr _ _
  have a0:wA.cell? ⟨wr.heap.size,0,none⟩=some (.int .i64 x):=HKA.o.cell 0;have a1:wA.cell? ⟨wr.heap.size,1,none⟩=some (.string pn):=HKA.o.cell 1;have a2:wA.cell? ⟨wr.heap.size,2,none⟩=some (.string pd):=HKA.o.cell 2;obtain⟨z5,z6⟩:=HS.o wA HGA.o;have HWA:=Za hwA;clear hwA;go_upto_region 13 with(fail);rw[←HWA.o];have HBF:Hid (∀W,Gq wA W→Below w.heap.size w W):=fun W hW=>HB.o.trans (Below.mono (HGA.o.trans hW) HB.o.size);by_cases hx0:x<0
  · have HQ:Hid (E0=1):=(by have:=Zar (by rw[HPA.o];exact decide_eq_true (.inl hx0):Zaq cl xs k=true);show _=_;rw[HBD.o (by rw[this];decide),this]);go_wp2_with fail;go_ret;exact⟨Z02 HQ.o.symm,HBF.o _ (Gq.refl _)⟩
  by_cases hx1:cl - 1<x
  · have HQ:Hid (E0=1):=(by have:=Zar (by rw[HPA.o];exact decide_eq_true (.inr (by omega)):Zaq cl xs k=true);show _=_;rw[HBD.o (by rw[this];decide),this]);go_wp2_with fail;go_ret;exact⟨Z02 HQ.o.symm,HBF.o _ (Gq.refl _)⟩
  have HPA2:Hid (Zaq cl xs k=false):=by show _=_;rw[HPA.o];exact decide_eq_false (by omega)
  obtain⟨pb,hpb⟩:∃pb,pntB xs k=pb:=⟨_,rfl⟩;rw[hpb]at HPB;go_upto_region 15 with(fail)
  go_cut [117] (fun v wx=>v= .bool pb∧Hid (Gq wA wx))
  case first=>
   cases k with
   |zero=>
    have HE0:Hid (pb=false):=(by show _=_;rw[HPB.o];exact decide_eq_false (by omega));go_wp2_with fail
    go_quiet (fail)
    go_wp2_with fail;go_meet
    case rel=>exact⟨by rw[HE0.o],below_drewN (Gq.refl wA) _⟩
   |succ j=>
    obtain⟨y,hy⟩:∃y,(xs.getD (j+1 - 1) Z0j).at_=y:=⟨_,rfl⟩;have dv:wA.cell? ⟨b,off+j*3,none⟩=some (.int .i64 y):=(by rw[Below.cell HRA.o (by exact hb),←hy];exact HPV.o (by omega));have HE0:Hid (pb=decide (x≤y)):=(by show _=_;rw[HPB.o,hy];simp);have j0:IntKind.i64.wrap ((j:Int)+1 - 1)=(j:Int):=(by rw[Int.add_sub_cancel];exact IntWalk.i64_in _ (by omega));have j1:(j:Int)<(xs.length:Int):=(by omega);have j2:(0:Int)≤(j:Int):=(by omega);have j3:decide ((0:Int)<(j:Int)+1)=true:=decide_eq_true (by omega);clear hy;go_wp2_with fail
    go_quiet (fail)
    go_wp2_with fail;go_meet
    case rel=>exact⟨by rw[HE0.o],below_drewN (Gq.refl wA) _⟩
  case rest=>
   obtain⟨rfl,HGC⟩:=hcut;have HGW:Hid (Gq w1 wc):=HGA.o.trans HGC.o;have HKC:Hid (Blk wc wr.heap.size 61 [.int .i64 x,.string pn,.string pd]):=HKA.o.same (Same.of_below (S:=fun _=>True) HGC.o) trivial;have e1:wc.cell? ⟨wr.heap.size,1,none⟩=some (.string pn):=HKC.o.cell 1;have e2:wc.cell? ⟨wr.heap.size,2,none⟩=some (.string pd):=HKC.o.cell 2;clear a0 a1 a2 z5 z6 HPB HPV;cases pb with
   |true=>
    have HQ:Hid (E0=8):=(by have:=pntF_b HPA2.o hpb;show _=_;rw[HBD.o (by rw[this];decide),this]);go_wp2_with fail;go_ret;exact⟨Z02 HQ.o.symm,HBF.o _ HGC.o⟩
   |false=>
    have HCK:=Za (ckR_any pn pd wc HPO.o.2.1 HPO.o.2.2);have HPC2:=Za (HPC.o HPA2.o hpb);have HPD2:=Za (HPD.o HPA2.o hpb);clear HPC HPD HPA2 hpb HPA;obtain⟨f,hf⟩:∃f,Z2h pn pd=f:=⟨_,rfl⟩;rw[hf]at HCK HPC2 HPD2;have HFE:=Za hf;clear hf;go_wp2_with fail;refine HCK.o.mono ?_;rintro e w5 ⟨rfl,hb5⟩;have HB5:Hid (Gq wA w5):=HGC.o.trans hb5;have HG5:Hid (Gq w1 w5):=HGW.o.trans hb5;have HK5:Hid (Blk w5 wr.heap.size 61 [.int .i64 x,.string pn,.string pd]):=HKC.o.same (Same.of_below (S:=fun _=>True) hb5) trivial;clear hb5 HCK e1 e2;by_cases hf:f=0
    case neg=>have HQ:Hid (E0=f):=(by have:=HPC2.o hf;show _=_;rw[HBD.o (by rw[this];exact hf),this]);have hf2:(!(f==0))=true:=(by simp[hf]);go_wp2_with fail;go_ret;exact⟨Z02 HQ.o.symm,HBF.o _ HB5.o⟩
    subst hf;have HPE:=Za (HPD2.o rfl);have hfz:Z2h pn pd=0:=HFE.o;have e1:w5.cell? ⟨wr.heap.size,1,none⟩=some (.string pn):=HK5.o.cell 1;have e2:w5.cell? ⟨wr.heap.size,2,none⟩=some (.string pd):=HK5.o.cell 2;have HRR:=Za (Z3t hfz);have HOF:=Za (Zff pn pd w5 HRR.o HPO.o.2.1);have HLO:Hid (∀v W,Gq w5 W→Z1f W v (sgT pn) (Z0e (boT pn)) (Z0e pd.data.toList)→Calls Tryz.prog 55 #[v,.int .i64 40] W fun e w'=>e= .returned (.bool (decide (40<(boT pn).length)||decide (40<pd.data.toList.length)))∧Gq W w'):=fun v W hW hv=>(by have:=Zfg v (sgT pn) (Z0e (boT pn)) (Z0e pd.data.toList) 40 W hv 2000 (Z2d ((Z0p _).1 HRR.o.nz).1 HRR.o.nl) (Z2d ((Z0p _).1 HRR.o.dz).1 HRR.o.dl) (by omega) (HPW.o.below (HB.o.trans (Below.mono (HG5.o.trans hW) HB.o.size))) (by omega);rw[Zcv HRR.o.nz,Zcv HRR.o.dz]at this;exact this);obtain⟨lb,hlb⟩:∃lb,(decide (40<(boT pn).length)||decide (40<pd.data.toList.length))=lb:=⟨_,rfl⟩;have HPE2:Hid (Z3i cl xs k=if lb=true then 2 else 0):=(by show _=_;rw[HPE.o,or40,hlb]);rw[hlb]at HLO;clear hlb HPE HPD2 HPC2 HRR hfz;go_wp2_with fail;refine HOF.o.mono ?_;rintro e w6 ⟨v,rfl,hv6,hb6⟩;have HL6:=Za (HLO.o v w6 hb6 hv6);have HB6:Hid (Gq w5 w6):=hb6;clear hv6 hb6 HOF HLO;go_wp2_with fail;refine HL6.o.mono ?_;rintro e w7 ⟨rfl,hb7⟩;have HB7:Hid (Gq w5 w7):=HB6.o.trans hb7;clear hb7 HL6 HB6;cases lb with
    |true=>
     have HQ:Hid (E0=2):=(by have h2:Z3i cl xs k=2:=HPE2.o;show _=_;rw[HBD.o (by rw[h2];decide),h2]);go_wp2_with fail;go_ret;exact⟨Z02 HQ.o.symm,HBF.o _ (HB5.o.trans HB7.o)⟩
    |false=>
     have HN2:=Za (HNX.o HPE2.o);go_wp2_with fail;go_roundw
     case rel=>exact⟨k+1,by omega,by go_num,HN2.o,HG5.o.trans HB7.o⟩
     case measure=>simp[intOf];omega
theorem Z6q (e:EdtM)(w:World)(h:EdtOk w e)(hpw:HasPow w):
  Calls Tryz.prog 36 #[e.v] w fun en w'=>en= .returned (.int .i64 (Z0y Z0r 1000000 e.x))∧Below w.heap.size w w':=by
 obtain⟨rt,tk,⟨A,d,xs⟩⟩:=e;obtain⟨⟨r1,r2⟩,⟨t1,t2⟩,hcl,hcr,hco⟩:=h;simp only at r1 r2 t1 t2 hcl hcr hco;have HR1:=Za (ediF_r (nm:=Z0r) (mx:=1000000) (e:=EdtM.x ⟨rt,tk,⟨A,d,xs⟩⟩));have HR2:=Za (ediF_l (nm:=Z0r) (mx:=1000000) (e:=EdtM.x ⟨rt,tk,⟨A,d,xs⟩⟩));have HR3:=Za (ediF_n (nm:=Z0r) (mx:=1000000) (e:=EdtM.x ⟨rt,tk,⟨A,d,xs⟩⟩));have HKO:=Za (Zeb Z0r (EdtM.x ⟨rt,tk,⟨A,d,xs⟩⟩));obtain⟨E,hE⟩:∃E,Z0y Z0r 1000000 (EdtM.x ⟨rt,tk,⟨A,d,xs⟩⟩)=E:=⟨_,rfl⟩;obtain⟨F,hF⟩:∃F,Za3 Z0r (EdtM.x ⟨rt,tk,⟨A,d,xs⟩⟩)=F:=⟨_,rfl⟩;rw[hE]at HR1 HR2 HR3⊢;rw[hF]at HR3 HKO;have hGD:∀k (hk:k<xs.length),(xs.map CliM.x).getD k Z1g=xs[k].x:=fun k hk=>by rw[Zg,List.getElem?_map,Zi hk];rfl
 simp only[EdtM.x,EdtM.v,Slc.v,List.length_map]at HR1 HR2 HR3 HKO⊢;have HGD:=Za hGD;have HPW:=Za hpw;have HCO:=Za hco;obtain⟨w1,hw1⟩:∃w1,w1=w.alloc (.cells #[.int .i64 rt,.int .i64 tk,.slice A xs.length d] 24):=⟨_,rfl⟩;have HB:Hid (Below w.heap.size w w1):=by rw[hw1];exact(Zm _ _).alloc (Zh _) _
 have HK:Hid (Blk w1 w.heap.size 24 [.int .i64 rt,.int .i64 tk,.slice A xs.length d]):=by rw[hw1];exact Blk.new w _ _
 have HR:Hid (Rd w1 A (xs.flatMap CliM.cs)):=hcr.below HB.o;have HS:Hid (∀W,Gq w1 W→W.cell? ⟨w.heap.size,0,none⟩=some (.int .i64 rt)∧W.cell? ⟨w.heap.size,1,none⟩=some (.int .i64 tk)∧W.cell? ⟨w.heap.size,2,none⟩=some (.slice A xs.length d)):=fun W hW=>by have k1:=HK.o.same (Same.of_below (S:=fun _=>True) hW) trivial;exact⟨k1.cell 0,k1.cell 1,k1.cell 2⟩
 have HW:=Za hw1;obtain⟨c0,c1,c2⟩:=HS.o w1 (Gq.refl _);have HIR:=Za (Z9i rt w1);have HRI:=Za (Zao rt);obtain⟨rb,hrb⟩:∃rb,isRt rt=rb:=⟨_,rfl⟩;rw[hrb]at HIR HRI;clear hw1 hE hF hcr hco hGD HK hrb hpw;go_enter Tryz.func36,Tryz.ntmps36;go_upto_region 1 with(fail);rw[←HW.o];go_wp2_with fail;refine HIR.o.mono ?_;rintro e w' ⟨rfl,hww⟩;subst hww;cases rb
 · have HQ:Hid (E=1):=HR1.o (.inl (fun g=>by have:=HRI.o.2 g;cases this));go_wp2_with fail;go_ret;exact⟨Z02 HQ.o.symm,HB.o⟩
 have HRR:=Za (HRI.o.1 rfl);by_cases ht1:tk<1
 · have HQ:Hid (E=1):=HR1.o (.inr (.inl ht1));go_wp2_with fail;go_ret;exact⟨Z02 HQ.o.symm,HB.o⟩
 by_cases ht2:16<tk
 · have HQ:Hid (E=1):=HR1.o (.inr (.inr ht2));go_wp2_with fail;go_ret;exact⟨Z02 HQ.o.symm,HB.o⟩
 have HOK:Hid (¬(¬(1≤rt∧rt≤1000000)∨tk<1∨16<tk)):=fun g=>by
  rcases g with g|g|g
  · exact g HRR.o
  · exact ht1 g
  · exact ht2 g
 by_cases h3:300<xs.length
 · have HQ:Hid (E=2):=HR2.o HOK.o h3;have h3b:decide (300<xs.length)=true:=(by simpa using h3);go_wp2_with fail;go_ret;exact⟨Z02 HQ.o.symm,HB.o⟩
 have h3b:decide (300<xs.length)=false:=by simpa using h3
 have HE2:=Za (HR3.o HOK.o h3);clear HR1 HR2 HR3 HOK HRR HRI HIR;go_wp2_with fail;clear c0 c1 c2
 go_loopw [3] (fun iv wr=>∃k:Nat,k≤xs.length∧iv= .int .i64 (k:Int)∧Hid (∀j,j<k→F j=0)∧Hid (Gq w1 wr)) (fun iv _=>xs.length - (intOf iv).toNat)
 case atStart=>exact⟨0,Nat.zero_le _,rfl,fun j hj=>by omega,Gq.refl _⟩
 case round=>
  obtain⟨k,hk,rfl,HA,HG⟩:=hrel;obtain⟨s0,s1,s2⟩:=HS.o wr HG.o;by_cases hlt:k<xs.length
  case neg=>have hd:decide (k<xs.length)=false:=(by simpa using hlt);have HQ:Hid (E=0):=HE2.o.2 (fun j hj=>HA.o j (by omega));go_wp2_with fail;go_ret;exact⟨Z02 HQ.o.symm,HB.o.trans (Below.mono HG.o HB.o.size)⟩
  have hd:decide (k<xs.length)=true:=by simpa using hlt
  obtain⟨b,off,rfl,hb,hc⟩:=Z4b (HG.o.rd HR.o) (by omega);have HCW:=Za ((HCO.o _ (Zn hlt)).below (Below.trans HB.o (Below.mono HG.o HB.o.size)));have HNX:Hid (F k=0→∀j,j<k+1→F j=0):=fun h=>Z56 HA.o h;have HBD:Hid (F k≠0→E=F k):=fun h=>HE2.o.1 k hlt HA.o h;have HKK:=Za (HKO.o k);rw[HGD.o k hlt]at HKK;have HAT:=Za hc;have HBF:Hid (∀W,Gq wr W→Below w.heap.size w W):=fun W hW=>HB.o.trans (Below.mono (HG.o.trans hW) HB.o.size);have HCL:Hid (∀W,Gq wr W→Calls Tryz.prog 62 #[xs[k].v,.int .i64 tk] W fun e w'=>e= .returned (.int .i64 (Z3n Z0r tk xs[k].x))∧Gq W w'):=fun W hW=>cliR_any _ _ W (HCW.o.below hW) ⟨by omega,by omega⟩ (HPW.o.below (HBF.o W hW));have HX:Hid (∃x:CliM,xs[k]=x∧(wr.cell? ⟨b,off+k*7,none⟩=some (.string x.m)∧wr.cell? ⟨b,off+k*7+1,none⟩=some (.int .i64 x.ch)∧wr.cell? ⟨b,off+k*7+2,none⟩=some (.int .i64 x.fr)∧wr.cell? ⟨b,off+k*7+3,none⟩=some (.int .i64 x.tr)∧wr.cell? ⟨b,off+k*7+4,none⟩=some (.int .i64 x.at_)∧wr.cell? ⟨b,off+k*7+5,none⟩=some (.int .i64 x.ln)∧wr.cell? ⟨b,off+k*7+6,none⟩=some (.slice x.e.a x.e.xs.length x.e.c))):=⟨xs[k],rfl,hc k hlt⟩;have HYP:Hid (0<k→∃y:CliM,(xs.map CliM.x).getD (k - 1) Z1g=y.x∧(wr.cell? ⟨b,off+(k - 1)*7,none⟩=some (.string y.m)∧wr.cell? ⟨b,off+(k - 1)*7+1,none⟩=some (.int .i64 y.ch)∧wr.cell? ⟨b,off+(k - 1)*7+2,none⟩=some (.int .i64 y.fr)∧wr.cell? ⟨b,off+(k - 1)*7+3,none⟩=some (.int .i64 y.tr)∧wr.cell? ⟨b,off+(k - 1)*7+4,none⟩=some (.int .i64 y.at_)∧wr.cell? ⟨b,off+(k - 1)*7+5,none⟩=some (.int .i64 y.ln)∧wr.cell? ⟨b,off+(k - 1)*7+6,none⟩=some (.slice y.e.a y.e.xs.length y.e.c))):=fun hj=>⟨xs[k - 1]'(by omega),HGD.o (k - 1) (by omega),hc (k - 1) (by omega)⟩;obtain⟨x,hx,x0,x1,x2,x3,x4,x5,x6⟩:=HX.o;rw[hx]at HCL HKK;clear hc hx HX HAT HCW;obtain⟨xm,xc,xf,xt,xa,xl,⟨xA,xd,xe⟩⟩:=x;simp only[CliM.v,Slc.v]at HCL x0 x1 x2 x3 x4 x5 x6;generalize hxn:(xe.length:Nat)=xn at HCL x0 x1 x2 x3 x4 x5 x6;have HXN:=Za hxn;obtain⟨f,hf⟩:∃f,Z3n Z0r tk (CliM.x ⟨xm,xc,xf,xt,xa,xl,⟨xA,xd,xe⟩⟩)=f:=⟨_,rfl⟩;rw[hf]at HCL HKK;have HSX:Hid (∀W,Gq wr W→W.cell? ⟨w.heap.size,1,none⟩=some (.int .i64 tk)∧W.cell? ⟨w.heap.size,2,none⟩=some (.slice (some ⟨b,off,none⟩) xs.length d)∧W.cell? ⟨b,off+k*7,none⟩=some (.string xm)∧W.cell? ⟨b,off+k*7+1,none⟩=some (.int .i64 xc)∧W.cell? ⟨b,off+k*7+2,none⟩=some (.int .i64 xf)∧W.cell? ⟨b,off+k*7+3,none⟩=some (.int .i64 xt)∧W.cell? ⟨b,off+k*7+4,none⟩=some (.int .i64 xa)∧W.cell? ⟨b,off+k*7+5,none⟩=some (.int .i64 xl)∧W.cell? ⟨b,off+k*7+6,none⟩=some (.slice xA xn xd)∧Gq wr W):=fun W hW=>by have q:=fun i (u:Value) (hu:wr.cell? ⟨b,i,none⟩=some u)=>(Below.cell hW (p:=⟨b,i,none⟩) (by exact hb)).trans hu;exact⟨(HS.o W (HG.o.trans hW)).2.1,(HS.o W (HG.o.trans hW)).2.2,q _ _ x0,q _ _ x1,q _ _ x2,q _ _ x3,q _ _ x4,q _ _ x5,q _ _ x6,hW⟩
  have i0:(0:Int)≤(k:Int):=by omega
  have i1:(k:Int)<(xs.length:Int):=by omega
  have hBR:Gq wr wr:=Gq.refl _;have hBD:Gq wr wr.drew:=(Gq.refl _).drew;clear hf hxn;go_upto_region 8 with(fail)
  go_cut [4] (fun v wx=>v= .int .i64 f∧Hid (Gq wr wx))
  case first=>
   go_region_held3 (fun W=>W.cell? ⟨w.heap.size,1,none⟩=some (.int .i64 tk)∧W.cell? ⟨w.heap.size,2,none⟩=some (.slice (some ⟨b,off,none⟩) xs.length d)∧W.cell? ⟨b,off+k*7,none⟩=some (.string xm)∧W.cell? ⟨b,off+k*7+1,none⟩=some (.int .i64 xc)∧W.cell? ⟨b,off+k*7+2,none⟩=some (.int .i64 xf)∧W.cell? ⟨b,off+k*7+3,none⟩=some (.int .i64 xt)∧W.cell? ⟨b,off+k*7+4,none⟩=some (.int .i64 xa)∧W.cell? ⟨b,off+k*7+5,none⟩=some (.int .i64 xl)∧W.cell? ⟨b,off+k*7+6,none⟩=some (.slice xA xn xd)∧Gq wr W)
    (first|exact HSX.o _ hBD|exact HSX.o _ hBR|exact HSX.o _ (Gq.trans hBD (by assumption))|exact HSX.o _ (Gq.trans hBR (by assumption)))
    (first|(go_at_call 62;with_reducible refine(HCL.o _ (by first|exact hBR|exact hBD)).mono ?_;rintro e w' ⟨rfl,hqc⟩))
   all_goals
    go_wp2_with fail;go_meet
    case rel=>exact⟨rfl,by first|exact Gq.trans hBD (by assumption)|exact Gq.trans hBR (by assumption)⟩
  case rest=>
  obtain⟨rfl,HG5⟩:=hcut;obtain⟨w5,hw5⟩:∃w5,w5=wc:=⟨_,rfl⟩;subst hw5;by_cases hf:f=0
  case neg=>have HQ:Hid (E=f):=(by have:=HKK.o.1 hf;show _=_;rw[HBD.o (by rw[this];exact hf),this]);have hf2:(!(f==0))=true:=(by simp[hf]);go_wp2_with fail;go_ret;exact⟨Z02 HQ.o.symm,HBF.o _ HG5.o⟩
  have HKZ:=Za (HKK.o.2.1 hf);have HKN:=Za (HKK.o.2.2 hf);subst hf;clear HKK;obtain⟨pb,hpb⟩:∃pb,decide (0<k∧0<Z14 ((xs.map CliM.x).getD (k - 1) Z1g) (CliM.x ⟨xm,xc,xf,xt,xa,xl,⟨xA,xd,xe⟩⟩))=pb:=⟨_,rfl⟩;have HPB:=Za hpb;clear hpb;go_upto_region 11 with(fail)
  go_cut [57] (fun v wx=>v= .bool pb∧Hid (Gq w5 wx))
  case first=>
   cases k with
   |zero=>
    have HE0:Hid (pb=false):=(by show _=_;rw[←HPB.o];exact decide_eq_false (by omega));go_wp2_with fail
    go_quiet (fail)
    go_wp2_with fail;go_meet
    case rel=>exact⟨by rw[HE0.o],below_drewN (Gq.refl w5) _⟩
   |succ j=>
    obtain⟨y,hy,y0,y1,y2,y3,y4,y5,y6⟩:=HYP.o (by omega);rw[Nat.add_sub_cancel]at hy y0 y1 y2 y3 y4 y5 y6;obtain⟨r,hr⟩:∃r,Z14 (CliM.x ⟨xm,xc,xf,xt,xa,xl,⟨xA,xd,xe⟩⟩) y.x=r:=⟨_,rfl⟩;have HCP:Hid (∀W,Calls Tryz.prog 43 #[.agg #[.string xm,.int .i64 xc,.int .i64 xf,.int .i64 xt,.int .i64 xa,.int .i64 xl,.slice xA xn xd],y.v] W fun e w'=>e= .returned (.int .i64 r)∧Gq W w'):=fun W=>(by have:=Z3d ⟨xm,xc,xf,xt,xa,xl,⟨xA,xd,xe⟩⟩ y W;rw[hr]at this;simp only[CliM.v,Slc.v]at this;rw[HXN.o]at this;exact this);have HE0:Hid (pb=decide (r<0)):=(by show _=_;rw[←HPB.o,Nat.add_sub_cancel,hy,Z57 (CliM.x ⟨xm,xc,xf,xt,xa,xl,⟨xA,xd,xe⟩⟩) y.x,hr];rw[decide_eq_decide];omega);obtain⟨ym,yc,yf,yt,ya,yl,⟨yA,yd,ye⟩⟩:=y;simp only[CliM.v,Slc.v]at HCP y0 y1 y2 y3 y4 y5 y6;generalize (ye.length:Nat)=yn at HCP y0 y1 y2 y3 y4 y5 y6;have HSY:Hid (∀W,Gq w5 W→W.cell? ⟨w.heap.size,2,none⟩=some (.slice (some ⟨b,off,none⟩) xs.length d)∧W.cell? ⟨b,off+(j+1)*7,none⟩=some (.string xm)∧W.cell? ⟨b,off+(j+1)*7+1,none⟩=some (.int .i64 xc)∧W.cell? ⟨b,off+(j+1)*7+2,none⟩=some (.int .i64 xf)∧W.cell? ⟨b,off+(j+1)*7+3,none⟩=some (.int .i64 xt)∧W.cell? ⟨b,off+(j+1)*7+4,none⟩=some (.int .i64 xa)∧W.cell? ⟨b,off+(j+1)*7+5,none⟩=some (.int .i64 xl)∧W.cell? ⟨b,off+(j+1)*7+6,none⟩=some (.slice xA xn xd)∧W.cell? ⟨b,off+j*7,none⟩=some (.string ym)∧W.cell? ⟨b,off+j*7+1,none⟩=some (.int .i64 yc)∧W.cell? ⟨b,off+j*7+2,none⟩=some (.int .i64 yf)∧W.cell? ⟨b,off+j*7+3,none⟩=some (.int .i64 yt)∧W.cell? ⟨b,off+j*7+4,none⟩=some (.int .i64 ya)∧W.cell? ⟨b,off+j*7+5,none⟩=some (.int .i64 yl)∧W.cell? ⟨b,off+j*7+6,none⟩=some (.slice yA yn yd)∧Gq w5 W):=fun W hW=>(by have g1:=HG5.o.trans hW;have q:=fun i (u:Value) (hu:wr.cell? ⟨b,i,none⟩=some u)=>(Below.cell g1 (p:=⟨b,i,none⟩) (by exact hb)).trans hu;exact⟨(HS.o W (HG.o.trans g1)).2.2,q _ _ x0,q _ _ x1,q _ _ x2,q _ _ x3,q _ _ x4,q _ _ x5,q _ _ x6,q _ _ y0,q _ _ y1,q _ _ y2,q _ _ y3,q _ _ y4,q _ _ y5,q _ _ y6,hW⟩);have j0:IntKind.i64.wrap ((j:Int)+1 - 1)=(j:Int):=(by rw[Int.add_sub_cancel];exact IntWalk.i64_in _ (by omega));have j1:(j:Int)<(xs.length:Int):=(by omega);have j2:(0:Int)≤(j:Int):=(by omega);have j3:decide ((0:Int)<(j:Int)+1)=true:=decide_eq_true (by omega);have j4:IntKind.i64.wrap (j:Int)=(j:Int):=IntWalk.i64_in _ (by omega);have j5:j<xs.length:=(by omega);have j6:(0:Int)≤(j:Int)+1:=(by omega);have j7:(j:Int)+1<(xs.length:Int):=(by omega);have j8:j+1<xs.length:=(by omega);have hCR:Gq w5 w5:=Gq.refl _;have hCD:Gq w5 w5.drew:=(Gq.refl _).drew;clear hy hr y0 y1 y2 y3 y4 y5 y6 x0 x1 x2 x3 x4 x5 x6 s0 s1 s2 hBR hBD;go_wp2_with fail
    go_region_held3 (fun W=>W.cell? ⟨w.heap.size,2,none⟩=some (.slice (some ⟨b,off,none⟩) xs.length d)∧W.cell? ⟨b,off+(j+1)*7,none⟩=some (.string xm)∧W.cell? ⟨b,off+(j+1)*7+1,none⟩=some (.int .i64 xc)∧W.cell? ⟨b,off+(j+1)*7+2,none⟩=some (.int .i64 xf)∧W.cell? ⟨b,off+(j+1)*7+3,none⟩=some (.int .i64 xt)∧W.cell? ⟨b,off+(j+1)*7+4,none⟩=some (.int .i64 xa)∧W.cell? ⟨b,off+(j+1)*7+5,none⟩=some (.int .i64 xl)∧W.cell? ⟨b,off+(j+1)*7+6,none⟩=some (.slice xA xn xd)∧W.cell? ⟨b,off+j*7,none⟩=some (.string ym)∧W.cell? ⟨b,off+j*7+1,none⟩=some (.int .i64 yc)∧W.cell? ⟨b,off+j*7+2,none⟩=some (.int .i64 yf)∧W.cell? ⟨b,off+j*7+3,none⟩=some (.int .i64 yt)∧W.cell? ⟨b,off+j*7+4,none⟩=some (.int .i64 ya)∧W.cell? ⟨b,off+j*7+5,none⟩=some (.int .i64 yl)∧W.cell? ⟨b,off+j*7+6,none⟩=some (.slice yA yn yd)∧Gq w5 W)
     (first|exact HSY.o _ hCD|exact HSY.o _ hCR|exact HSY.o _ (Gq.trans hCD (by assumption))|exact HSY.o _ (Gq.trans hCR (by assumption)))
     (first|(go_at_call 43;with_reducible refine(HCP.o _).mono ?_;rintro e w' ⟨rfl,hqc⟩))
    all_goals
     go_wp2_with fail;go_meet
     case rel=>exact⟨by rw[HE0.o],by first|exact Gq.trans hCD (by assumption)|exact Gq.trans hCR (by assumption)⟩
  case rest=>
   obtain⟨rfl,HGC⟩:=hcut;have HGW:Hid (Gq wr wc):=HG5.o.trans HGC.o;have HFE:Hid ((pb=true→F k=8)∧(pb=false→F k=0)):=(by rw[←HPB.o];exact⟨fun g=>HKZ.o (of_decide_eq_true g),fun g=>HKN.o (of_decide_eq_false g)⟩);cases pb with
   |true=>
    have HQ:Hid (E=8):=(by have:=HFE.o.1 rfl;show _=_;rw[HBD.o (by rw[this];decide),this]);go_wp2_with fail;go_ret;exact⟨Z02 HQ.o.symm,HBF.o _ HGW.o⟩
   |false=>
    have HN2:=Za (HNX.o (HFE.o.2 rfl));go_wp2_with fail;go_roundw
    case rel=>exact⟨k+1,by omega,by go_num,HN2.o,HG.o.trans HGW.o⟩
    case measure=>simp[intOf];omega
end Go.Proofs.YtcemlhbfemenpaaGreatDoor
