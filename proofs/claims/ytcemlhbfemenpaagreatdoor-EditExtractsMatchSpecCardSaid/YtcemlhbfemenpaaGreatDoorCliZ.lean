/- Several texts laid into one: The contract of edit.checkEnvelope; The contract of edit.checkClip; The contract of edit.Check; -/
import Derived.Test.YtcemlhbfemenpaaGreatDoorRatZ
import Derived.Test.YtcemlhbfemenpaaGreatDoorPlnF
import Derived.Test.YtcemlhbfemenpaaGreatDoorCmpZ
set_option maxHeartbeats 8000000
set_option maxRecDepth 100000
namespace Go.Proofs.YtcemlhbfemenpaaGreatDoor
open Go.RowKit Go.Dw
theorem Ze9 (s:ByteArray)(W:World):Calls Tryz.prog 51 #[.string s,.string ⟨#[45]⟩] W fun e w'=>e= .returned (.string ⟨(boT s).toArray⟩)∧W=w':=
 (Any.strings_TrimPrefix Tryz.lays101 s ⟨#[45]⟩ W).mono fun _ _ ⟨h1,h2⟩=>⟨h1,h2.symm⟩
def Zaq (ln:Int)(e:List Pnt)(i:Nat):Bool:=decide ((e.getD i Z0j).at_<0∨ln≤(e.getD i Z0j).at_)
def pntB (e:List Pnt)(i:Nat):Bool:=decide (0<i∧(e.getD i Z0j).at_≤(e.getD (i - 1) Z0j).at_)
theorem Zar {ln:Int}{e:List Pnt}{i:Nat}(h:Zaq ln e i=true):Z3i ln e i=1:=by unfold Z3i;rw[if_pos (of_decide_eq_true h)]
theorem pntF_b {ln:Int}{e:List Pnt}{i:Nat}(h:Zaq ln e i=false)(g:pntB e i=true):Z3i ln e i=8:=by
 unfold Z3i;rw[if_neg (of_decide_eq_false h),if_pos (of_decide_eq_true g)]
theorem pntF_c {ln:Int}{e:List Pnt}{i:Nat}(h:Zaq ln e i=false)(g:pntB e i=false)(k:Z2h (e.getD i Z0j).n (e.getD i Z0j).d≠0):Z3i ln e i=Z2h (e.getD i Z0j).n (e.getD i Z0j).d:=by
 unfold Z3i;rw[if_neg (of_decide_eq_false h),if_neg (of_decide_eq_false g),if_pos k]
theorem pntF_d {ln:Int}{e:List Pnt}{i:Nat}(h:Zaq ln e i=false)(g:pntB e i=false)(k:Z2h (e.getD i Z0j).n (e.getD i Z0j).d=0):Z3i ln e i=if 40<(boT (e.getD i Z0j).n).length∨40<(e.getD i Z0j).d.data.toList.length then 2 else 0:=by
 unfold Z3i;rw[if_neg (of_decide_eq_false h),if_neg (of_decide_eq_false g),if_neg (by omega)]
theorem getD_get {α:Type}{l:List α}{k:Nat}{d:α}(h:k<l.length):l.getD k d=l[k]:=by simp[List.getD_eq_getElem?_getD,h]
theorem env_any (c:CliM)(w:World)(h:CliOk w c)(hl:Z0l c.ln):
  Calls Tryz.prog 25 #[c.v] w fun e w'=>e= .returned (.int .i64 (Z3r c.ln c.e.xs))∧Below w.heap.size w w':=by
 obtain⟨cm,cc,cf,ct,ca,cl,⟨A,d,xs⟩⟩:=c;obtain⟨_,_,_,_,_,_,hel,her,heo⟩:=h;simp only at hel her heo hl;simp only[CliM.v,Slc.v];have HXO:=Za heo;obtain⟨w1,hw1⟩:∃w1,w1=w.alloc (.cells #[.string cm,.int .i64 cc,.int .i64 cf,.int .i64 ct,.int .i64 ca,.int .i64 cl,.slice A xs.length d] 39):=⟨_,rfl⟩;have HB:Hid (Below w.heap.size w w1):=by rw[hw1];exact(Zm _ _).alloc (Zh _) _
 have HK:Hid (Blk w1 w.heap.size 39 [.string cm,.int .i64 cc,.int .i64 cf,.int .i64 ct,.int .i64 ca,.int .i64 cl,.slice A xs.length d]):=by rw[hw1];exact Blk.new w _ _
 have HR:Hid (Rd w1 A (xs.flatMap Pnt.cs)):=her.below HB.o;have HS:Hid (∀W,Gq w1 W→W.cell? ⟨w.heap.size,5,none⟩=some (.int .i64 cl)∧W.cell? ⟨w.heap.size,6,none⟩=some (.slice A xs.length d)):=fun W hW=>by have k1:=HK.o.same (Same.of_below (S:=fun _=>True) hW) trivial;exact⟨k1.cell 5,k1.cell 6⟩
 have HF:Hid (∀r,Z3r cl xs=r→Z3r cl xs=r):=fun _ h=>h;obtain⟨E,hE⟩:∃E,Z3r cl xs=E:=⟨_,rfl⟩;have HE:Hid ((xs.length=0→E=9)∧(xs.length≠0→50<xs.length→E=2)∧(xs.length≠0→¬50<xs.length→(∀k,k<xs.length→(∀j,j<k→Z3i cl xs j=0)→Z3i cl xs k≠0→E=Z3i cl xs k)∧((∀j,j<xs.length→Z3i cl xs j=0)→E=0))):=by rw[←hE];unfold Z3r;refine⟨fun h=>by rw[if_pos h],fun h g=>by rw[if_neg h,if_pos g],fun h g=> ?_⟩;rw[if_neg h,if_neg g];exact⟨fun k hk h1 h2=>Z25 h1 h2 hk,fun h1=>Z2i h1⟩
 rw[hE];have HW:=Za hw1;obtain⟨c5,c6⟩:=HS.o w1 (Gq.refl _);clear hw1 hE HF her heo HK;go_enter Tryz.func25,Tryz.ntmps25;go_upto_region 1 with(fail);rw[←HW.o];by_cases h0:xs.length=0
 · have HQ:Hid (E=9):=HE.o.1 h0;rw[h0]at c6;go_wp2_with fail;go_ret;exact⟨Z02 HQ.o.symm,HB.o⟩
 have h0b:((xs.length:Int)==0)=false:=by rw[beq_eq_false_iff_ne];omega
 by_cases h50:50<xs.length
 · have HQ:Hid (E=2):=HE.o.2.1 h0 h50;have h50b:decide (50<xs.length)=true:=(by simpa using h50);go_wp2_with fail;go_ret;exact⟨Z02 HQ.o.symm,HB.o⟩
 have h50b:decide (50<xs.length)=false:=by simpa using h50
 have HE2:=Za (HE.o.2.2 h0 h50);clear HE;go_wp2_with fail;clear c5 c6
 go_loopw [17] (fun iv wr=>∃k:Nat,k≤xs.length∧iv= .int .i64 (k:Int)∧Hid (∀j,j<k→Z3i cl xs j=0)∧Hid (Gq w1 wr)) (fun iv _=>xs.length - (intOf iv).toNat)
 case atStart=>exact⟨0,Nat.zero_le _,rfl,fun j hj=>by omega,Gq.refl _⟩
 case round=>
  obtain⟨k,hk,rfl,HA,HG⟩:=hrel;by_cases hlt:k<xs.length
  case neg=>have hd:decide (k<xs.length)=false:=(by simpa using hlt);have HQ:Hid (E=0):=HE2.o.2 (fun j hj=>HA.o j (by omega));go_wp2_with fail;go_ret;exact⟨Z02 HQ.o.symm,HB.o.trans (Below.mono HG.o HB.o.size)⟩
  have hd:decide (k<xs.length)=true:=by simpa using hlt
  obtain⟨b,off,rfl,hb,hc⟩:=Z4a (HG.o.rd HR.o) (by omega);obtain⟨d0,d1,d2⟩:=hc k hlt;have HPV:Hid (0<k→wr.cell? ⟨b,off+(k - 1)*3,none⟩=some (.int .i64 (xs.getD (k - 1) Z0j).at_)):=fun h=>by rw[getD_get (by omega)];exact(hc (k - 1) (by omega)).1
  have HGE:Hid (xs.getD k Z0j=xs[k]):=getD_get hlt;have HPO:=Za (HXO.o _ (Zn hlt));obtain⟨s5,s6⟩:=HS.o wr HG.o;have HNX:Hid (Z3i cl xs k=0→∀j,j<k+1→Z3i cl xs j=0):=fun h=>Z56 HA.o h;have HBD:Hid (Z3i cl xs k≠0→E=Z3i cl xs k):=fun h=>HE2.o.1 k hlt HA.o h;have HPA:Hid (Zaq cl xs k=decide ((xs[k]).at_<0∨cl≤(xs[k]).at_)):=by show _=_;unfold Zaq;rw[HGE.o]
  have HPB:Hid (pntB xs k=decide (0<k∧(xs[k]).at_≤(xs.getD (k - 1) Z0j).at_)):=by show _=_;unfold pntB;rw[HGE.o]
  have HPC:=Za (pntF_c (ln:=cl) (e:=xs) (i:=k));have HPD:=Za (pntF_d (ln:=cl) (e:=xs) (i:=k));rw[HGE.o]at HPC HPD;obtain⟨pt,hpt⟩:∃pt,xs[k]=pt:=⟨_,rfl⟩;rw[hpt]at d0 d1 d2 HPO HPA HPB HPC HPD;clear hc hpt HGE;obtain⟨x,pn,pd⟩:=pt;simp only at d0 d1 d2 HPO HPA HPB HPC HPD;obtain⟨wA,hwA⟩:∃wA,wA=wr.alloc (.cells #[.int .i64 x,.string pn,.string pd] 61):=⟨_,rfl⟩;have HGA:Hid (Gq w1 wA):=by rw[hwA];exact HG.o.alloc _
  have HRA:Hid (Gq wr wA):=by rw[hwA];exact(Gq.refl _).alloc _
  have HKA:Hid (Blk wA wr.heap.size 61 [.int .i64 x,.string pn,.string pd]):=by rw[hwA];exact Blk.new wr _ _
  have a0:wA.cell? ⟨wr.heap.size,0,none⟩=some (.int .i64 x):=HKA.o.cell 0;have a1:wA.cell? ⟨wr.heap.size,1,none⟩=some (.string pn):=HKA.o.cell 1;have a2:wA.cell? ⟨wr.heap.size,2,none⟩=some (.string pd):=HKA.o.cell 2;obtain⟨z5,z6⟩:=HS.o wA HGA.o;have HWA:=Za hwA;clear hwA;go_upto_region 8 with(fail);rw[←HWA.o];have HBF:Hid (∀W,Gq wA W→Below w.heap.size w W):=fun W hW=>HB.o.trans (Below.mono (HGA.o.trans hW) HB.o.size);by_cases hx0:x<0
  · have HQ:Hid (E=1):=(by have:=Zar (by rw[HPA.o];exact decide_eq_true (.inl hx0):Zaq cl xs k=true);show _=_;rw[HBD.o (by rw[this];decide),this]);go_wp2_with fail;go_ret;exact⟨Z02 HQ.o.symm,HBF.o _ (Gq.refl _)⟩
  by_cases hx1:cl≤x
  · have HQ:Hid (E=1):=(by have:=Zar (by rw[HPA.o];exact decide_eq_true (.inr hx1):Zaq cl xs k=true);show _=_;rw[HBD.o (by rw[this];decide),this]);go_wp2_with fail;go_ret;exact⟨Z02 HQ.o.symm,HBF.o _ (Gq.refl _)⟩
  have HPA2:Hid (Zaq cl xs k=false):=by show _=_;rw[HPA.o];exact decide_eq_false (by omega)
  obtain⟨pb,hpb⟩:∃pb,pntB xs k=pb:=⟨_,rfl⟩;rw[hpb]at HPB;go_upto_region 10 with(fail)
  go_cut [45] (fun v wx=>v= .bool pb∧Hid (Gq wA wx))
  case first=>
   cases k with
   |zero=>
    have HE0:Hid (pb=false):=(by show _=_;rw[HPB.o];exact decide_eq_false (by omega));go_wp2_with fail
    go_quiet (fail)
    go_wp2_with fail;go_meet
    case rel=>exact⟨by rw[HE0.o],below_drewN (Gq.refl wA) _⟩
   |succ j=>
    obtain⟨y,hy⟩:∃y,(xs.getD (j+1 - 1) Z0j).at_=y:=⟨_,rfl⟩;have dv:wA.cell? ⟨b,off+j*3,none⟩=some (.int .i64 y):=(by rw[Below.cell HRA.o (by exact hb),←hy];exact HPV.o (by omega));have HE0:Hid (pb=decide (x≤y)):=(by show _=_;rw[HPB.o,hy];simp);have j0:IntKind.i64.wrap ((j:Int)+1 - 1)=(j:Int):=(by rw[Int.add_sub_cancel];exact IntWalk.i64_in _ (by omega));have j1:(j:Int)<(xs.length:Int):=(by omega);have j2:(0:Int)≤(j:Int):=(by omega);have j3:decide ((0:Int)<(j:Int)+1)=true:=decide_eq_true (by omega);clear hy;go_wp2_with fail
    go_quiet (fail)
    go_wp2_with fail;go_meet
    case rel=>exact⟨by rw[HE0.o],below_drewN (Gq.refl wA) _⟩
  case rest=>
   obtain⟨rfl,HGC⟩:=hcut;have HGW:Hid (Gq w1 wc):=HGA.o.trans HGC.o;have HKC:Hid (Blk wc wr.heap.size 61 [.int .i64 x,.string pn,.string pd]):=HKA.o.same (Same.of_below (S:=fun _=>True) HGC.o) trivial;have e1:wc.cell? ⟨wr.heap.size,1,none⟩=some (.string pn):=HKC.o.cell 1;have e2:wc.cell? ⟨wr.heap.size,2,none⟩=some (.string pd):=HKC.o.cell 2;clear a0 a1 a2 z5 z6 HPB HPV;cases pb with
   |true=>
    have HQ:Hid (E=8):=(by have:=pntF_b HPA2.o hpb;show _=_;rw[HBD.o (by rw[this];decide),this]);go_wp2_with fail;go_ret;exact⟨Z02 HQ.o.symm,HBF.o _ HGC.o⟩
   |false=>
    have HCK:=Za (Z6b pn pd wc HPO.o.2.1 HPO.o.2.2);have HPC2:=Za (HPC.o HPA2.o hpb);have HPD2:=Za (HPD.o HPA2.o hpb);clear HPC HPD HPA2 hpb HPA;obtain⟨f,hf⟩:∃f,Z2h pn pd=f:=⟨_,rfl⟩;rw[hf]at HCK HPC2 HPD2;clear hf;go_wp2_with fail;refine HCK.o.mono ?_;rintro e w5 ⟨rfl,hb5⟩;have HB5:Hid (Gq wA w5):=HGC.o.trans hb5;have HG5:Hid (Gq w1 w5):=HGW.o.trans hb5;have HK5:Hid (Blk w5 wr.heap.size 61 [.int .i64 x,.string pn,.string pd]):=HKC.o.same (Same.of_below (S:=fun _=>True) hb5) trivial;clear hb5 HCK e1 e2;by_cases hf:f=0
    case neg=>have HQ:Hid (E=f):=(by have:=HPC2.o hf;show _=_;rw[HBD.o (by rw[this];exact hf),this]);have hf2:(!(f==0))=true:=(by simp[hf]);go_wp2_with fail;go_ret;exact⟨Z02 HQ.o.symm,HBF.o _ HB5.o⟩
    subst hf;have HPE:=Za (HPD2.o rfl);have e1:w5.cell? ⟨wr.heap.size,1,none⟩=some (.string pn):=HK5.o.cell 1;have e2:w5.cell? ⟨wr.heap.size,2,none⟩=some (.string pd):=HK5.o.cell 2;have HTP:=Za (Ze9 pn w5);obtain⟨n,hn⟩:∃n:ByteArray,n=⟨(boT pn).toArray⟩:=⟨_,rfl⟩;have hnz:n.size=(boT pn).length:=(by rw[hn];show(boT pn).toArray.size=_;simp);have hdz:pd.data.toList.length=pd.size:=(by rw[Zo];rfl);rw[←hnz,hdz]at HPE;rw[←hn]at HTP;clear hn hnz hdz HPD2 HPC2;go_wp2_with fail;refine HTP.o.mono ?_;rintro e w6 ⟨rfl,hw6⟩;subst hw6;by_cases h1:40<n.size
    · have HQ:Hid (E=2):=(by have h2:Z3i cl xs k=2:=(by rw[HPE.o,if_pos (.inl h1)]);show _=_;rw[HBD.o (by rw[h2];decide),h2]);have h1b:decide (40<n.size)=true:=(by simpa using h1);go_wp2_with fail;go_ret;exact⟨Z02 HQ.o.symm,HBF.o _ HB5.o⟩
    have h1b:decide (40<n.size)=false:=(by simpa using h1);by_cases h2:40<pd.size
    · have HQ:Hid (E=2):=(by have h3:Z3i cl xs k=2:=(by rw[HPE.o,if_pos (.inr h2)]);show _=_;rw[HBD.o (by rw[h3];decide),h3]);have h2b:decide (40<pd.size)=true:=(by simpa using h2);go_wp2_with fail;go_ret;exact⟨Z02 HQ.o.symm,HBF.o _ HB5.o⟩
    have h2b:decide (40<pd.size)=false:=(by simpa using h2);have HN2:=Za (HNX.o (by rw[HPE.o,if_neg (by omega)]));go_wp2_with fail;go_roundw
    case rel=>exact⟨k+1,by omega,by go_num,HN2.o,HG5⟩
    case measure=>simp[intOf];omega
def CliN (tk xc xf xt xa xl:Int):Prop:=(0≤xc∧xc<16)∧(0≤xf∧xf≤10000000000000)∧(0≤xt∧xt<tk)∧(0≤xa∧xa<100000)∧(1≤xl∧xl≤100000 - xa)∧xf+xl≤10000000000000
theorem Zea (nm:ByteArray→Bool)(tk:Int)(c:Cli)(h:nm c.m=true):(¬CliN tk c.ch c.fr c.tr c.at_ c.ln→Z3n nm tk c=1)∧(CliN tk c.ch c.fr c.tr c.at_ c.ln→Z3n nm tk c=Z3r c.ln c.e):=by
 unfold Z3n cliR;rw[if_neg (by rw[h];decide)];refine⟨fun g=> ?_,fun g=> ?_⟩
 · exact if_pos (decide_eq_false_iff_not.2 g)
 · exact if_neg (fun e=>decide_eq_false_iff_not.1 e g)
theorem cli_any (c:CliM)(tk:Int)(w:World)(h:CliOk w c):
  Calls Tryz.prog 32 #[c.v,.int .i64 tk] w fun e w'=>e= .returned (.int .i64 (Z3n Z0r tk c.x))∧Below w.heap.size w w':=by
 have HEV:Hid (∀W,Gq w W→Calls Tryz.prog 25 #[c.v] W fun e w'=>e= .returned (.int .i64 (Z3r c.ln c.e.xs))∧Below W.heap.size W w'):=fun W hW=>env_any c W (h.below hW) h.ln;have HCF:=Za (Zea Z0r tk c.x);have hm:=h.m;have HNF:Hid (Z0r c.m=false→Z3n Z0r tk c.x=5):=fun g=>by unfold Z3n;rw[if_pos (by exact g)]
 obtain⟨xm,xc,xf,xt,xa,xl,⟨A,d,xs⟩⟩:=c;obtain⟨_,i1,i2,i3,i4,i5,_,_,_⟩:=h;obtain⟨E,hE⟩:∃E,Z3n Z0r tk (CliM.x ⟨xm,xc,xf,xt,xa,xl,⟨A,d,xs⟩⟩)=E:=⟨_,rfl⟩;rw[hE]at HCF HNF⊢;simp only[CliM.x,CliM.v,Slc.v]at HEV HCF HNF i1 i2 i3 i4 i5 hm⊢;obtain⟨i1a,i1b⟩:=i1;obtain⟨i2a,i2b⟩:=i2;obtain⟨i3a,i3b⟩:=i3;obtain⟨i4a,i4b⟩:=i4;obtain⟨i5a,i5b⟩:=i5;clear hE;generalize (xs.length:Nat)=xn at*;obtain⟨w1,hw1⟩:∃w1,w1=w.alloc (.cells #[.string xm,.int .i64 xc,.int .i64 xf,.int .i64 xt,.int .i64 xa,.int .i64 xl,.slice A xn d] 39):=⟨_,rfl⟩;have HB:Hid (Below w.heap.size w w1):=by rw[hw1];exact(Zm _ _).alloc (Zh _) _
 have HK:Hid (Blk w1 w.heap.size 39 [.string xm,.int .i64 xc,.int .i64 xf,.int .i64 xt,.int .i64 xa,.int .i64 xl,.slice A xn d]):=by rw[hw1];exact Blk.new w _ _
 have a0:w1.cell? ⟨w.heap.size,0,none⟩=some (.string xm):=HK.o.cell 0;have HIN:=Za (Zc3 xm w1 hm);have HW:=Za hw1;clear hw1;go_enter Tryz.func32,Tryz.ntmps32;go_upto_region 1 with(fail);rw[←HW.o];go_wp2_with fail;refine HIN.o.mono ?_;rintro e w2 ⟨rfl,hb2⟩;have HB2:Hid (Gq w w2):=HB.o.trans (hb2.mono HB.o.size);have HK2:Hid (Blk w2 w.heap.size 39 [.string xm,.int .i64 xc,.int .i64 xf,.int .i64 xt,.int .i64 xa,.int .i64 xl,.slice A xn d]):=HK.o.same (Same.of_below (S:=fun _=>True) hb2) trivial;obtain⟨nb,hnb⟩:∃nb,Z0r xm=nb:=⟨_,rfl⟩;rw[hnb];rw[hnb]at HCF HNF;clear hb2 HIN a0 HK HB hnb;cases nb
 · have HQ:Hid (E=5):=HNF.o rfl;go_wp2_with fail;go_ret;exact⟨Z02 HQ.o.symm,HB2.o⟩
 have HE2:=Za (HCF.o rfl);have HEU:Hid ((¬((0≤xc∧xc<16)∧(0≤xf∧xf≤10000000000000)∧(0≤xt∧xt<tk)∧(0≤xa∧xa<100000)∧(1≤xl∧xl≤100000 - xa)∧xf+xl≤10000000000000)→E=1)∧(((0≤xc∧xc<16)∧(0≤xf∧xf≤10000000000000)∧(0≤xt∧xt<tk)∧(0≤xa∧xa<100000)∧(1≤xl∧xl≤100000 - xa)∧xf+xl≤10000000000000)→E=Z3r xl xs)):=HE2.o;clear HE2 HCF HNF;have HE2:=HEU;clear HEU;have a1:w2.cell? ⟨w.heap.size,1,none⟩=some (.int .i64 xc):=HK2.o.cell 1;have a2:w2.cell? ⟨w.heap.size,2,none⟩=some (.int .i64 xf):=HK2.o.cell 2;have a3:w2.cell? ⟨w.heap.size,3,none⟩=some (.int .i64 xt):=HK2.o.cell 3;have a4:w2.cell? ⟨w.heap.size,4,none⟩=some (.int .i64 xa):=HK2.o.cell 4;have a5:w2.cell? ⟨w.heap.size,5,none⟩=some (.int .i64 xl):=HK2.o.cell 5;have a6:w2.cell? ⟨w.heap.size,6,none⟩=some (.slice A xn d):=HK2.o.cell 6;have a0:w2.cell? ⟨w.heap.size,0,none⟩=some (.string xm):=HK2.o.cell 0;by_cases h1:xc<0
 · have HQ:Hid (E=1):=HE2.o.1 (by omega);go_wp2_with fail;go_ret;exact⟨Z02 HQ.o.symm,HB2.o⟩
 by_cases h2:16≤xc
 · have HQ:Hid (E=1):=HE2.o.1 (by omega);go_wp2_with fail;go_ret;exact⟨Z02 HQ.o.symm,HB2.o⟩
 by_cases h3:xf<0
 · have HQ:Hid (E=1):=HE2.o.1 (by omega);go_wp2_with fail;go_ret;exact⟨Z02 HQ.o.symm,HB2.o⟩
 by_cases h4:10000000000000<xf
 · have HQ:Hid (E=1):=HE2.o.1 (by omega);go_wp2_with fail;go_ret;exact⟨Z02 HQ.o.symm,HB2.o⟩
 by_cases h5:xt<0
 · have HQ:Hid (E=1):=HE2.o.1 (by omega);go_wp2_with fail;go_ret;exact⟨Z02 HQ.o.symm,HB2.o⟩
 by_cases h6:tk≤xt
 · have HQ:Hid (E=1):=HE2.o.1 (by omega);go_wp2_with fail;go_ret;exact⟨Z02 HQ.o.symm,HB2.o⟩
 by_cases h7:xa<0
 · have HQ:Hid (E=1):=HE2.o.1 (by omega);go_wp2_with fail;go_ret;exact⟨Z02 HQ.o.symm,HB2.o⟩
 by_cases h8:100000≤xa
 · have HQ:Hid (E=1):=HE2.o.1 (by omega);go_wp2_with fail;go_ret;exact⟨Z02 HQ.o.symm,HB2.o⟩
 by_cases h9:xl<1
 · have HQ:Hid (E=1):=HE2.o.1 (by omega);go_wp2_with fail;go_ret;exact⟨Z02 HQ.o.symm,HB2.o⟩
 have W1:IntKind.i64.wrap (100000 - xa)=100000 - xa:=IntWalk.i64_in _ (by omega);by_cases h10:100000 - xa<xl
 · have HQ:Hid (E=1):=HE2.o.1 (by omega);go_wp2_with fail;go_ret;exact⟨Z02 HQ.o.symm,HB2.o⟩
 have W2:IntKind.i64.wrap (xf+xl)=xf+xl:=IntWalk.i64_in _ (by omega);by_cases h11:10000000000000<xf+xl
 · have HQ:Hid (E=1):=HE2.o.1 (by omega);go_wp2_with fail;go_ret;exact⟨Z02 HQ.o.symm,HB2.o⟩
 have HQ:Hid (E=Z3r xl xs):=HE2.o.2 (by omega);have HEN:=Za (HEV.o w2 HB2.o);rw[←HQ.o]at HEN;go_wp2_with fail;refine HEN.o.mono ?_;rintro e w3 ⟨rfl,hb3⟩;have HB3:=Za (Gq.trans HB2.o hb3);clear hb3;go_wp2_with fail;go_ret;exact⟨rfl,HB3.o⟩
theorem ediF_r {nm:ByteArray→Bool}{mx:Int}{e:Edt}(h:¬(1≤e.rate∧e.rate≤mx)∨e.tracks<1∨16<e.tracks):Z0y nm mx e=1:=by unfold Z0y;rw[if_pos h]
theorem ediF_l {nm:ByteArray→Bool}{mx:Int}{e:Edt}(h:¬(¬(1≤e.rate∧e.rate≤mx)∨e.tracks<1∨16<e.tracks))(g:300<e.cs.length):Z0y nm mx e=2:=by unfold Z0y;rw[if_neg h,if_pos g]
theorem ediF_n {nm:ByteArray→Bool}{mx:Int}{e:Edt}(h:¬(¬(1≤e.rate∧e.rate≤mx)∨e.tracks<1∨16<e.tracks))(g:¬300<e.cs.length):
  (∀k,k<e.cs.length→(∀j,j<k→Za3 nm e j=0)→Za3 nm e k≠0→Z0y nm mx e=Za3 nm e k)∧((∀j,j<e.cs.length→Za3 nm e j=0)→Z0y nm mx e=0):=by
 unfold Z0y;rw[if_neg h,if_neg g];exact⟨fun k hk h1 h2=>Z25 h1 h2 hk,fun h1=>Z2i h1⟩
theorem Zeb (nm:ByteArray→Bool)(e:Edt)(k:Nat):(Z3n nm e.tracks (e.cs.getD k Z1g)≠0→Za3 nm e k=Z3n nm e.tracks (e.cs.getD k Z1g))∧(Z3n nm e.tracks (e.cs.getD k Z1g)=0→(0<k∧0<Z14 (e.cs.getD (k - 1) Z1g) (e.cs.getD k Z1g))→Za3 nm e k=8)∧
  (Z3n nm e.tracks (e.cs.getD k Z1g)=0→¬(0<k∧0<Z14 (e.cs.getD (k - 1) Z1g) (e.cs.getD k Z1g))→Za3 nm e k=0):=by
 unfold Za3;refine⟨fun h=>by rw[if_pos h],fun h g=>by rw[if_neg (by omega),if_pos g],fun h g=>by rw[if_neg (by omega),if_neg g]⟩
theorem Z62 (e:EdtM)(w:World)(h:EdtOk w e):
  Calls Tryz.prog 12 #[e.v] w fun en w'=>en= .returned (.int .i64 (Z0y Z0r 1000000 e.x))∧Below w.heap.size w w':=by
 obtain⟨rt,tk,⟨A,d,xs⟩⟩:=e;obtain⟨⟨r1,r2⟩,⟨t1,t2⟩,hcl,hcr,hco⟩:=h;simp only at r1 r2 t1 t2 hcl hcr hco;have HR1:=Za (ediF_r (nm:=Z0r) (mx:=1000000) (e:=EdtM.x ⟨rt,tk,⟨A,d,xs⟩⟩));have HR2:=Za (ediF_l (nm:=Z0r) (mx:=1000000) (e:=EdtM.x ⟨rt,tk,⟨A,d,xs⟩⟩));have HR3:=Za (ediF_n (nm:=Z0r) (mx:=1000000) (e:=EdtM.x ⟨rt,tk,⟨A,d,xs⟩⟩));have HKO:=Za (Zeb Z0r (EdtM.x ⟨rt,tk,⟨A,d,xs⟩⟩));obtain⟨E,hE⟩:∃E,Z0y Z0r 1000000 (EdtM.x ⟨rt,tk,⟨A,d,xs⟩⟩)=E:=⟨_,rfl⟩;obtain⟨F,hF⟩:∃F,Za3 Z0r (EdtM.x ⟨rt,tk,⟨A,d,xs⟩⟩)=F:=⟨_,rfl⟩;rw[hE]at HR1 HR2 HR3⊢;rw[hF]at HR3 HKO;have hGD:∀k (hk:k<xs.length),(xs.map CliM.x).getD k Z1g=xs[k].x:=fun k hk=>by rw[Zg,List.getElem?_map,Zi hk];rfl
 simp only[EdtM.x,EdtM.v,Slc.v,List.length_map]at HR1 HR2 HR3 HKO⊢;have HGD:=Za hGD;have HCO:=Za hco;obtain⟨w1,hw1⟩:∃w1,w1=w.alloc (.cells #[.int .i64 rt,.int .i64 tk,.slice A xs.length d] 24):=⟨_,rfl⟩;have HB:Hid (Below w.heap.size w w1):=by rw[hw1];exact(Zm _ _).alloc (Zh _) _
 have HK:Hid (Blk w1 w.heap.size 24 [.int .i64 rt,.int .i64 tk,.slice A xs.length d]):=by rw[hw1];exact Blk.new w _ _
 have HR:Hid (Rd w1 A (xs.flatMap CliM.cs)):=hcr.below HB.o;have HS:Hid (∀W,Gq w1 W→W.cell? ⟨w.heap.size,0,none⟩=some (.int .i64 rt)∧W.cell? ⟨w.heap.size,1,none⟩=some (.int .i64 tk)∧W.cell? ⟨w.heap.size,2,none⟩=some (.slice A xs.length d)):=fun W hW=>by have k1:=HK.o.same (Same.of_below (S:=fun _=>True) hW) trivial;exact⟨k1.cell 0,k1.cell 1,k1.cell 2⟩
 have HW:=Za hw1;obtain⟨c0,c1,c2⟩:=HS.o w1 (Gq.refl _);have HIR:=Za (Zbw rt w1);have HRI:=Za (Zao rt);obtain⟨rb,hrb⟩:∃rb,isRt rt=rb:=⟨_,rfl⟩;rw[hrb]at HIR HRI;clear hw1 hE hF hcr hco hGD HK hrb;go_enter Tryz.func12,Tryz.ntmps12;go_upto_region 1 with(fail);rw[←HW.o];go_wp2_with fail;refine HIR.o.mono ?_;rintro e w' ⟨rfl,hww⟩;subst hww;cases rb
 · have HQ:Hid (E=1):=HR1.o (.inl (fun g=>by have:=HRI.o.2 g;cases this));go_wp2_with fail;go_ret;exact⟨Z02 HQ.o.symm,HB.o⟩
 have HRR:=Za (HRI.o.1 rfl);by_cases ht1:tk<1
 · have HQ:Hid (E=1):=HR1.o (.inr (.inl ht1));go_wp2_with fail;go_ret;exact⟨Z02 HQ.o.symm,HB.o⟩
 by_cases ht2:16<tk
 · have HQ:Hid (E=1):=HR1.o (.inr (.inr ht2));go_wp2_with fail;go_ret;exact⟨Z02 HQ.o.symm,HB.o⟩
 have HOK:Hid (¬(¬(1≤rt∧rt≤1000000)∨tk<1∨16<tk)):=fun g=>by
  rcases g with g|g|g
  · exact g HRR.o
  · exact ht1 g
  · exact ht2 g
 by_cases h3:300<xs.length
 · have HQ:Hid (E=2):=HR2.o HOK.o h3;have h3b:decide (300<xs.length)=true:=(by simpa using h3);go_wp2_with fail;go_ret;exact⟨Z02 HQ.o.symm,HB.o⟩
 have h3b:decide (300<xs.length)=false:=by simpa using h3
 have HE2:=Za (HR3.o HOK.o h3);clear HR1 HR2 HR3 HOK HRR HRI HIR;go_wp2_with fail;clear c0 c1 c2
 go_loopw [27] (fun iv wr=>∃k:Nat,k≤xs.length∧iv= .int .i64 (k:Int)∧Hid (∀j,j<k→F j=0)∧Hid (Gq w1 wr)) (fun iv _=>xs.length - (intOf iv).toNat)
 case atStart=>exact⟨0,Nat.zero_le _,rfl,fun j hj=>by omega,Gq.refl _⟩
 case round=>
  obtain⟨k,hk,rfl,HA,HG⟩:=hrel;by_cases hlt:k<xs.length
  case neg=>have hd:decide (k<xs.length)=false:=(by simpa using hlt);have HQ:Hid (E=0):=HE2.o.2 (fun j hj=>HA.o j (by omega));go_wp2_with fail;go_ret;exact⟨Z02 HQ.o.symm,HB.o.trans (Below.mono HG.o HB.o.size)⟩
  have hd:decide (k<xs.length)=true:=by simpa using hlt
  obtain⟨b,off,rfl,hb,hc⟩:=Z4b (HG.o.rd HR.o) (by omega);obtain⟨d0,d1,d2,d3,d4,d5,d6⟩:=hc k hlt;have HCW:=Za ((HCO.o _ (Zn hlt)).below (Below.trans HB.o (Below.mono HG.o HB.o.size)));obtain⟨s0,s1,s2⟩:=HS.o wr HG.o;have HNX:Hid (F k=0→∀j,j<k+1→F j=0):=fun h=>Z56 HA.o h;have HBD:Hid (F k≠0→E=F k):=fun h=>HE2.o.1 k hlt HA.o h;have HKK:=Za (HKO.o k);rw[HGD.o k hlt]at HKK
  have HPV:Hid (0<k→∃y:CliM,(xs.map CliM.x).getD (k - 1) Z1g=y.x∧(wr.cell? ⟨b,off+(k - 1)*7,none⟩=some (.string y.m)∧wr.cell? ⟨b,off+(k - 1)*7+1,none⟩=some (.int .i64 y.ch)∧wr.cell? ⟨b,off+(k - 1)*7+2,none⟩=some (.int .i64 y.fr)∧
   wr.cell? ⟨b,off+(k - 1)*7+3,none⟩=some (.int .i64 y.tr)∧wr.cell? ⟨b,off+(k - 1)*7+4,none⟩=some (.int .i64 y.at_)∧wr.cell? ⟨b,off+(k - 1)*7+5,none⟩=some (.int .i64 y.ln)∧wr.cell? ⟨b,off+(k - 1)*7+6,none⟩=some (.slice y.e.a y.e.xs.length y.e.c))):=fun hj=>
   ⟨xs[k - 1]'(by omega),HGD.o (k - 1) (by omega),hc (k - 1) (by omega)⟩
  clear hc;generalize xs[k]=x at*;obtain⟨wA,hwA⟩:∃wA,wA=wr.alloc (.cells x.cs.toArray 39):=⟨_,rfl⟩;have HGA:Hid (Gq w1 wA):=by rw[hwA];exact HG.o.alloc _
  have HRA:Hid (Gq wr wA):=by rw[hwA];exact(Gq.refl _).alloc _
  have HKA:Hid (Blk wA wr.heap.size 39 x.cs):=by rw[hwA];exact Blk.new wr _ _
  have HCL:Hid (∀W,Gq wA W→Calls Tryz.prog 32 #[x.v,.int .i64 tk] W fun e w'=>e= .returned (.int .i64 (Z3n Z0r tk x.x))∧Gq W w'):=fun W hW=>cli_any _ _ W (HCW.o.below (HRA.o.trans hW));have HBF:Hid (∀W,Gq wA W→Below w.heap.size w W):=fun W hW=>HB.o.trans (Below.mono (HGA.o.trans hW) HB.o.size);have HWA:=Za hwA;obtain⟨xm,xc,xf,xt,xa,xl,⟨xA,xd,xe⟩⟩:=x;simp only[CliM.cs,CliM.v,Slc.v]at HWA HKA HCL d0 d1 d2 d3 d4 d5 d6;generalize hxn:(xe.length:Nat)=xn at HWA HKA HCL d0 d1 d2 d3 d4 d5 d6;have HXN:=Za hxn;have a0:wA.cell? ⟨wr.heap.size,0,none⟩=some (.string xm):=HKA.o.cell 0;have a1:wA.cell? ⟨wr.heap.size,1,none⟩=some (.int .i64 xc):=HKA.o.cell 1;have a2:wA.cell? ⟨wr.heap.size,2,none⟩=some (.int .i64 xf):=HKA.o.cell 2;have a3:wA.cell? ⟨wr.heap.size,3,none⟩=some (.int .i64 xt):=HKA.o.cell 3;have a4:wA.cell? ⟨wr.heap.size,4,none⟩=some (.int .i64 xa):=HKA.o.cell 4;have a5:wA.cell? ⟨wr.heap.size,5,none⟩=some (.int .i64 xl):=HKA.o.cell 5;have a6:wA.cell? ⟨wr.heap.size,6,none⟩=some (.slice xA xn xd):=HKA.o.cell 6;obtain⟨z0,z1,z2⟩:=HS.o wA HGA.o;have HC1:=Za (HCL.o wA (Gq.refl _));obtain⟨f,hf⟩:∃f,Z3n Z0r tk (CliM.x ⟨xm,xc,xf,xt,xa,xl,⟨xA,xd,xe⟩⟩)=f:=⟨_,rfl⟩;rw[hf]at HC1 HKK;clear hwA hf hxn HCL;go_upto_region 8 with(fail);rw[←HWA.o];go_wp2_with fail;refine HC1.o.mono ?_;rintro e w5 ⟨rfl,hg5⟩;have HG5:=Za hg5;clear hg5 HC1 a0 a1 a2 a3 a4 a5 a6 z0 z1 z2;by_cases hf:f=0
  case neg=>have HQ:Hid (E=f):=(by have:=HKK.o.1 hf;show _=_;rw[HBD.o (by rw[this];exact hf),this]);have hf2:(!(f==0))=true:=(by simp[hf]);go_wp2_with fail;go_ret;exact⟨Z02 HQ.o.symm,HBF.o _ HG5.o⟩
  have HKZ:=Za (HKK.o.2.1 hf);have HKN:=Za (HKK.o.2.2 hf);subst hf;clear HKK;obtain⟨pb,hpb⟩:∃pb,decide (0<k∧0<Z14 ((xs.map CliM.x).getD (k - 1) Z1g) (CliM.x ⟨xm,xc,xf,xt,xa,xl,⟨xA,xd,xe⟩⟩))=pb:=⟨_,rfl⟩;have HPB:=Za hpb;clear hpb;go_upto_region 11 with(fail)
  go_cut [51] (fun v wx=>v= .bool pb∧Hid (Gq w5 wx))
  case first=>
   cases k with
   |zero=>
    have HE0:Hid (pb=false):=(by show _=_;rw[←HPB.o];exact decide_eq_false (by omega));go_wp2_with fail
    go_quiet (fail)
    go_wp2_with fail;go_meet
    case rel=>exact⟨by rw[HE0.o],below_drewN (Gq.refl w5) _⟩
   |succ j=>
    obtain⟨y,hy,y0,y1,y2,y3,y4,y5,y6⟩:=HPV.o (by omega);rw[Nat.add_sub_cancel]at hy y0 y1 y2 y3 y4 y5 y6;obtain⟨r,hr⟩:∃r,Z14 y.x (CliM.x ⟨xm,xc,xf,xt,xa,xl,⟨xA,xd,xe⟩⟩)=r:=⟨_,rfl⟩;have HCP:Hid (∀W,Calls Tryz.prog 33 #[y.v,.agg #[.string xm,.int .i64 xc,.int .i64 xf,.int .i64 xt,.int .i64 xa,.int .i64 xl,.slice xA xn xd]] W fun e w'=>e= .returned (.int .i64 r)∧Gq W w'):=fun W=>(by have:=Z9h y ⟨xm,xc,xf,xt,xa,xl,⟨xA,xd,xe⟩⟩ W;rw[hr]at this;simp only[CliM.v,Slc.v]at this;rw[HXN.o]at this;exact this);have HE0:Hid (pb=decide (0<r)):=(by show _=_;rw[←HPB.o,Nat.add_sub_cancel,hy,hr];simp);obtain⟨ym,yc,yf,yt,ya,yl,⟨yA,yd,ye⟩⟩:=y;simp only[CliM.v,Slc.v]at HCP y0 y1 y2 y3 y4 y5 y6;generalize (ye.length:Nat)=yn at HCP y0 y1 y2 y3 y4 y5 y6;have HR5:Gq wr w5:=HRA.o.trans HG5.o;have HSX:Hid (∀W,Gq w5 W→W.cell? ⟨w.heap.size,2,none⟩=some (.slice (some ⟨b,off,none⟩) xs.length d)∧W.cell? ⟨b,off+j*7,none⟩=some (.string ym)∧W.cell? ⟨b,off+j*7+1,none⟩=some (.int .i64 yc)∧W.cell? ⟨b,off+j*7+2,none⟩=some (.int .i64 yf)∧W.cell? ⟨b,off+j*7+3,none⟩=some (.int .i64 yt)∧W.cell? ⟨b,off+j*7+4,none⟩=some (.int .i64 ya)∧W.cell? ⟨b,off+j*7+5,none⟩=some (.int .i64 yl)∧W.cell? ⟨b,off+j*7+6,none⟩=some (.slice yA yn yd)∧W.cell? ⟨wr.heap.size,0,none⟩=some (.string xm)∧W.cell? ⟨wr.heap.size,1,none⟩=some (.int .i64 xc)∧W.cell? ⟨wr.heap.size,2,none⟩=some (.int .i64 xf)∧W.cell? ⟨wr.heap.size,3,none⟩=some (.int .i64 xt)∧W.cell? ⟨wr.heap.size,4,none⟩=some (.int .i64 xa)∧W.cell? ⟨wr.heap.size,5,none⟩=some (.int .i64 xl)∧W.cell? ⟨wr.heap.size,6,none⟩=some (.slice xA xn xd)∧Gq w5 W):=fun W hW=>(by have g1:=HR5.trans hW;have k1:=HKA.o.same (Same.of_below (S:=fun _=>True) (HG5.o.trans hW)) trivial;have q:=fun i (u:Value) (hu:wr.cell? ⟨b,i,none⟩=some u)=>(Below.cell g1 (p:=⟨b,i,none⟩) (by exact hb)).trans hu;exact⟨(HS.o W (HGA.o.trans (HG5.o.trans hW))).2.2,q _ _ y0,q _ _ y1,q _ _ y2,q _ _ y3,q _ _ y4,q _ _ y5,q _ _ y6,k1.cell 0,k1.cell 1,k1.cell 2,k1.cell 3,k1.cell 4,k1.cell 5,k1.cell 6,hW⟩);have j0:IntKind.i64.wrap ((j:Int)+1 - 1)=(j:Int):=(by rw[Int.add_sub_cancel];exact IntWalk.i64_in _ (by omega));have j1:(j:Int)<(xs.length:Int):=(by omega);have j2:(0:Int)≤(j:Int):=(by omega);have j3:decide ((0:Int)<(j:Int)+1)=true:=decide_eq_true (by omega);have j4:IntKind.i64.wrap (j:Int)=(j:Int):=IntWalk.i64_in _ (by omega);have j5:j<xs.length:=(by omega);have hBR:Gq w5 w5:=Gq.refl _;have hBD:Gq w5 w5.drew:=(Gq.refl _).drew;clear hy hr y0 y1 y2 y3 y4 y5 y6 d0 d1 d2 d3 d4 d5 d6 s0 s1 s2;go_wp2_with fail
    go_region_held3 (fun W=>W.cell? ⟨w.heap.size,2,none⟩=some (.slice (some ⟨b,off,none⟩) xs.length d)∧W.cell? ⟨b,off+j*7,none⟩=some (.string ym)∧W.cell? ⟨b,off+j*7+1,none⟩=some (.int .i64 yc)∧W.cell? ⟨b,off+j*7+2,none⟩=some (.int .i64 yf)∧W.cell? ⟨b,off+j*7+3,none⟩=some (.int .i64 yt)∧W.cell? ⟨b,off+j*7+4,none⟩=some (.int .i64 ya)∧W.cell? ⟨b,off+j*7+5,none⟩=some (.int .i64 yl)∧W.cell? ⟨b,off+j*7+6,none⟩=some (.slice yA yn yd)∧W.cell? ⟨wr.heap.size,0,none⟩=some (.string xm)∧W.cell? ⟨wr.heap.size,1,none⟩=some (.int .i64 xc)∧W.cell? ⟨wr.heap.size,2,none⟩=some (.int .i64 xf)∧W.cell? ⟨wr.heap.size,3,none⟩=some (.int .i64 xt)∧W.cell? ⟨wr.heap.size,4,none⟩=some (.int .i64 xa)∧W.cell? ⟨wr.heap.size,5,none⟩=some (.int .i64 xl)∧W.cell? ⟨wr.heap.size,6,none⟩=some (.slice xA xn xd)∧Gq w5 W)
     (first|exact HSX.o _ hBD|exact HSX.o _ hBR|exact HSX.o _ (Gq.trans hBD (by assumption))|exact HSX.o _ (Gq.trans hBR (by assumption)))
     (first|(go_at_call 33;with_reducible refine(HCP.o _).mono ?_;rintro e w' ⟨rfl,hqc⟩))
    all_goals
     go_wp2_with fail;go_meet
     case rel=>exact⟨by rw[HE0.o],by first|exact Gq.trans hBD (by assumption)|exact Gq.trans hBR (by assumption)⟩
  case rest=>
   obtain⟨rfl,HGC⟩:=hcut;have HGW:Hid (Gq w1 wc):=HGA.o.trans (HG5.o.trans HGC.o);have HFE:Hid ((pb=true→F k=8)∧(pb=false→F k=0)):=(by rw[←HPB.o];exact⟨fun g=>HKZ.o (of_decide_eq_true g),fun g=>HKN.o (of_decide_eq_false g)⟩);cases pb with
   |true=>
    have HQ:Hid (E=8):=(by have:=HFE.o.1 rfl;show _=_;rw[HBD.o (by rw[this];decide),this]);go_wp2_with fail;go_ret;exact⟨Z02 HQ.o.symm,HBF.o _ (HG5.o.trans HGC.o)⟩
   |false=>
    have HN2:=Za (HNX.o (HFE.o.2 rfl));go_wp2_with fail;go_roundw
    case rel=>exact⟨k+1,by omega,by go_num,HN2.o,HGW⟩
    case measure=>simp[intOf];omega
end Go.Proofs.YtcemlhbfemenpaaGreatDoor
