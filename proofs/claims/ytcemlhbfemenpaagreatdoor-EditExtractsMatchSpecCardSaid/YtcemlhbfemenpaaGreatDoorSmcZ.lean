/- Several texts laid into one: The contract of the reference's sameClip; The contract of the reference's SameClips; -/
import Derived.Test.YtcemlhbfemenpaaGreatDoorOrdZ
set_option maxHeartbeats 16000000
set_option maxRecDepth 100000
namespace Go.Proofs.YtcemlhbfemenpaaGreatDoor
open Go.RowKit Go.Dw
theorem runNeP (pa qa:Int)(pn pd qn qd:ByteArray)(b:Bool)(hb:b=true↔pa=qa∧pn=qn∧pd=qd)(w:World):
  Sem.run Tryz.prog (binOp .neq 61 (.agg #[.int .i64 pa,.string pn,.string pd]) (.agg #[.int .i64 qa,.string qn,.string qd])) w= .ok (.bool (!b)) w:=by
 by_cases h1:pa=qa
 ·
  by_cases h2:pn=qn
  ·
   by_cases h3:pd=qd
   · have:b=true:=hb.2 ⟨h1,h2,h3⟩;subst h1 h2 h3 this;clear hb;go_simp
   · have hf:b=false:=(by rw[Bool.eq_false_iff];exact fun h=>h3 (hb.1 h).2.2);have s3:=seq_f h3;subst h1 h2 hf;clear hb h3;go_simp
  · have hf:b=false:=(by rw[Bool.eq_false_iff];exact fun h=>h2 (hb.1 h).2.1);have s2:=seq_f h2;subst h1 hf;clear hb h2;go_simp
 · have hf:b=false:=(by rw[Bool.eq_false_iff];exact fun h=>h1 (hb.1 h).1);subst hf;clear hb;have s1:(pa==qa)=false:=(by simpa using h1);go_simp
theorem cli_eq {a b:Cli}(h:Z14 a b=0)(he:a.e=b.e):a=b:=by
 obtain⟨h1,h2,h3,h4,h5,h6⟩:=Zd4 h;cases a;cases b;simp only at h1 h2 h3 h4 h5 h6 he;subst h1 h2 h3 h4 h5 h6 he;rfl
theorem Z8w (x y:CliM)(q:Bool)(hq:q=true↔x.x=y.x)(w:World)(hx:CliOk w x)(hy:CliOk w y):
  Calls Tryz.prog 42 #[x.v,y.v] w fun e w'=>e= .returned (.bool q)∧Gq w w':=by
 have HO:Hid (∀W:World,Calls Tryz.prog 43 #[x.v,y.v] W fun e w'=>e= .returned (.int .i64 (Z14 x.x y.x))∧Below W.heap.size W w'):=fun W=>Z3d x y W;obtain⟨r,hr⟩:∃r,Z14 x.x y.x=r:=⟨_,rfl⟩;rw[hr]at HO;have HQ1:Hid (r≠0→q=false):=fun h=>by rw[Bool.eq_false_iff];intro hh;have:=hq.1 hh;rw[this,Zd5]at hr;exact h hr.symm
 have HQ2:Hid (∀k (h1:k<x.e.xs.length) (h2:k<y.e.xs.length),x.e.xs[k]≠y.e.xs[k]→q=false):=fun k h1 h2 h=>by rw[Bool.eq_false_iff];intro hh;have h3:x.e.xs=y.e.xs:=congrArg Cli.e (hq.1 hh);exact h (by simp only[h3])
 have HQ3:Hid (x.e.xs.length≠y.e.xs.length→q=false):=fun h=>by rw[Bool.eq_false_iff];intro hh;have h3:x.e.xs=y.e.xs:=congrArg Cli.e (hq.1 hh);exact h (by rw[h3])
 have HQ4:Hid (r=0→x.e.xs=y.e.xs→q=true):=fun h he=>hq.2 (cli_eq (by rw[hr];exact h) he);have HRX:=Za hx.er;have HRY:=Za hy.er;have hlx:=hx.el;have hly:=hy.el;clear hq hr hx hy;obtain⟨xm,xc,xf,xt,xa,xl,⟨xA,xk,xe⟩⟩:=x;obtain⟨ym,yc,yf,yt,ya,yl,⟨yA,yk,ye⟩⟩:=y;simp only[CliM.v,Slc.v]at*;obtain⟨w1,hw1⟩:∃w1,w1=(w.alloc (.cells #[.string xm,.int .i64 xc,.int .i64 xf,.int .i64 xt,.int .i64 xa,.int .i64 xl,.slice xA xe.length xk] 39)).alloc (.cells #[.string ym,.int .i64 yc,.int .i64 yf,.int .i64 yt,.int .i64 ya,.int .i64 yl,.slice yA ye.length yk] 39):=⟨_,rfl⟩;have HB:Hid (Gq w w1):=by rw[hw1];exact((Gq.refl _).alloc _).alloc _
 have HK:Hid (Blk w1 w.heap.size 39 [.string xm,.int .i64 xc,.int .i64 xf,.int .i64 xt,.int .i64 xa,.int .i64 xl,.slice xA xe.length xk]∧Blk w1 (w.heap.size+1) 39 [.string ym,.int .i64 yc,.int .i64 yf,.int .i64 yt,.int .i64 ya,.int .i64 yl,.slice yA ye.length yk]):=by have k1:=Blk.new w 39 [.string xm,.int .i64 xc,.int .i64 xf,.int .i64 xt,.int .i64 xa,.int .i64 xl,.slice xA xe.length xk];have k2:=Blk.new (w.alloc (.cells #[.string xm,.int .i64 xc,.int .i64 xf,.int .i64 xt,.int .i64 xa,.int .i64 xl,.slice xA xe.length xk] 39)) 39 [.string ym,.int .i64 yc,.int .i64 yf,.int .i64 yt,.int .i64 ya,.int .i64 yl,.slice yA ye.length yk];have e2:(w.alloc (.cells #[.string xm,.int .i64 xc,.int .i64 xf,.int .i64 xt,.int .i64 xa,.int .i64 xl,.slice xA xe.length xk] 39)).heap.size=w.heap.size+1:=(by simp);rw[e2]at k2;rw[hw1];exact⟨k1.same (Same.alloc (S:=fun _=>True) _ _) trivial,k2⟩
 have HW:=Za hw1
 have HS:Hid (∀W,Gq w1 W→W.cell? ⟨w.heap.size,0,none⟩=some (.string xm)∧W.cell? ⟨w.heap.size,1,none⟩=some (.int .i64 xc)∧W.cell? ⟨w.heap.size,2,none⟩=some (.int .i64 xf)∧W.cell? ⟨w.heap.size,3,none⟩=some (.int .i64 xt)∧W.cell? ⟨w.heap.size,4,none⟩=some (.int .i64 xa)∧W.cell? ⟨w.heap.size,5,none⟩=some (.int .i64 xl)∧W.cell? ⟨w.heap.size,6,none⟩=some (.slice xA xe.length xk)
  ∧W.cell? ⟨w.heap.size+1,0,none⟩=some (.string ym)∧W.cell? ⟨w.heap.size+1,1,none⟩=some (.int .i64 yc)∧W.cell? ⟨w.heap.size+1,2,none⟩=some (.int .i64 yf)∧W.cell? ⟨w.heap.size+1,3,none⟩=some (.int .i64 yt)∧W.cell? ⟨w.heap.size+1,4,none⟩=some (.int .i64 ya)∧W.cell? ⟨w.heap.size+1,5,none⟩=some (.int .i64 yl)∧W.cell? ⟨w.heap.size+1,6,none⟩=some (.slice yA ye.length yk)):=fun W hW=>by
  have k1:=HK.o.1.same (Same.of_below (S:=fun _=>True) hW) trivial;have k2:=HK.o.2.same (Same.of_below (S:=fun _=>True) hW) trivial;exact⟨k1.cell 0,k1.cell 1,k1.cell 2,k1.cell 3,k1.cell 4,k1.cell 5,k1.cell 6,k2.cell 0,k2.cell 1,k2.cell 2,k2.cell 3,k2.cell 4,k2.cell 5,k2.cell 6⟩
 obtain⟨a0,a1,a2,a3,a4,a5,a6,b0,b1,b2,b3,b4,b5,b6⟩:=HS.o w1 (Gq.refl _);clear hw1;go_enter Tryz.func42,Tryz.ntmps42;go_upto_region 1 with(fail);rw[←HW.o];go_wp2_with fail;refine(HO.o w1).mono ?_;rintro e w2 ⟨rfl,hb2⟩;have HG2:Hid (Gq w1 w2):=hb2;have HGW:Hid (Gq w w2):=HB.o.trans hb2;clear hb2 a0 a1 a2 a3 a4 a5 a6 b0 b1 b2 b3 b4 b5 b6;obtain⟨a0,a1,a2,a3,a4,a5,a6,b0,b1,b2,b3,b4,b5,b6⟩:=HS.o w2 HG2.o;clear a0 a1 a2 a3 a4 a5 b0 b1 b2 b3 b4 b5;by_cases h0:r=0
 case neg=>have HE:=Za (HQ1.o h0);have hd:(r !=0)=true:=(by simpa using h0);clear h0;go_wp2_with fail;go_ret;exact⟨Z0a HE.o.symm,HGW.o⟩
 subst h0;by_cases hl:xe.length=ye.length
 case neg=>have HE:=Za (HQ3.o hl);have hd:((xe.length:Int) !=(ye.length:Int))=true:=(by simp;omega);clear hl;go_wp2_with fail;go_ret;exact⟨Z0a HE.o.symm,HGW.o⟩
 have hd:((xe.length:Int) !=(ye.length:Int))=false:=by simp;omega
 have HL:Hid (xe.length=ye.length):=hl;clear hl;go_wp2_with fail
 go_loopw [5] (fun iv wr=>∃k:Nat,k≤xe.length∧iv= .int .i64 (k:Int)∧Hid (xe.take k=ye.take k)∧Hid (Gq w2 wr)) (fun iv _=>xe.length - (intOf iv).toNat)
 case atStart=>exact⟨0,Nat.zero_le _,rfl,rfl,Gq.refl _⟩
 case round=>
  obtain⟨k,hk,rfl,HT,HGR⟩:=hrel;clear a6 b6;obtain⟨-, -, -, -, -, -,a6, -, -, -, -, -, -,b6⟩:=HS.o wr (HG2.o.trans HGR.o);by_cases hlt:k<xe.length
  case neg=>
   have hd1:decide (k<xe.length)=false:=by simpa using hlt
   have HE:Hid (q=true):=HQ4.o (by first|trivial|rfl) (by
    have:=HT.o
    rwa [Zl (by omega),Zl (by have:=HL.o;omega)]at this)
   go_wp2_with fail;go_ret;exact⟨Z0a HE.o.symm,HGW.o.trans HGR.o⟩
  have hd1:decide (k<xe.length)=true:=by simpa using hlt
  have hlt2:k<ye.length:=by have:=HL.o;omega
  obtain⟨b,off,hA,hbb,hc⟩:=Z4a (HRX.o.below (HGW.o.trans HGR.o)) (by omega);obtain rfl:xA=some ⟨b,off,none⟩:=hA;obtain⟨b2,off2,hA2,hbb2,hc2⟩:=Z4a (HRY.o.below (HGW.o.trans HGR.o)) (by omega);obtain rfl:yA=some ⟨b2,off2,none⟩:=hA2;obtain⟨p0,p1,p2⟩:=hc k hlt;obtain⟨q0,q1,q2⟩:=hc2 k hlt2;obtain⟨eq,heq⟩:∃eq:Bool,eq=true↔xe[k].at_=ye[k].at_∧xe[k].n=ye[k].n∧xe[k].d=ye[k].d:=by refine⟨decide (xe[k].at_=ye[k].at_) && decide (xe[k].n=ye[k].n) && decide (xe[k].d=ye[k].d), ?_⟩;simp[and_assoc]
  have hne:=runNeP _ _ _ _ _ _ eq heq;have HN:=Za (HQ2.o k hlt hlt2);have HEQ:Hid (eq=true→xe[k]=ye[k]):=fun h=>by obtain⟨h1,h2,h3⟩:=heq.1 h;generalize xe[k]=u at*;generalize ye[k]=v at*;cases u;cases v;simp only at h1 h2 h3;subst h1 h2 h3;rfl
  have HNE:Hid (eq=false→xe[k]≠ye[k]):=fun h e=>by have:eq=true:=heq.2 ⟨by rw[e],by rw[e],by rw[e]⟩;rw[h]at this;cases this
  have HTK:Hid (xe[k]=ye[k]→xe.take (k+1)=ye.take (k+1)):=fun h=>by rw[List.take_succ_eq_append_getElem hlt,List.take_succ_eq_append_getElem hlt2,HT.o,h]
  have hik:(0:Int)≤(k:Int):=by omega
  have hik1:(k:Int)<(xe.length:Int):=by omega
  have hik2:(k:Int)<(ye.length:Int):=by omega
  clear heq hc hc2;generalize xe[k]=u at*;generalize ye[k]=v at*;cases eq with
  |false=>
   have HE:=Za (HN.o (HNE.o rfl));go_wp2_with fail
   go_quiet (fail)
   go_wp2
   go_ret;exact⟨Z0a HE.o.symm,below_drewN (HGW.o.trans HGR.o) _⟩
  |true=>
   have HE:=Za (HTK.o (HEQ.o rfl));go_wp2_with fail
   go_quiet (fail)
   go_wp2
   go_roundw
   case rel=>exact⟨k+1,by omega,by go_num,HE,below_drewN HGR.o _⟩
   case measure=>simp[intOf];omega
theorem infoBool:(Tryz.prog.info? 4).map (fun i=>(i.zero,i.size,i.bytes))=some (some (.bool false),1,1):=by kernel_rfl
theorem Z4x {w:World}{A:Option Addr}{xs:List CliM}{k:Nat}(h:Rd w A (xs.flatMap CliM.cs))(hk:k<xs.length):
  ∃b off,A=some ⟨b,off,none⟩∧b<w.heap.size∧w.cell? ⟨b,off+k*7,none⟩=some (.string xs[k].m)∧w.cell? ⟨b,off+k*7+1,none⟩=some (.int .i64 xs[k].ch)∧w.cell? ⟨b,off+k*7+2,none⟩=some (.int .i64 xs[k].fr)∧
   w.cell? ⟨b,off+k*7+3,none⟩=some (.int .i64 xs[k].tr)∧w.cell? ⟨b,off+k*7+4,none⟩=some (.int .i64 xs[k].at_)∧w.cell? ⟨b,off+k*7+5,none⟩=some (.int .i64 xs[k].ln)∧w.cell? ⟨b,off+k*7+6,none⟩=some (.slice xs[k].e.a xs[k].e.xs.length xs[k].e.c):=by
 obtain⟨b,off,e,hb,hc⟩:=Z4b h (by omega);exact⟨b,off,e,hb,hc k hk⟩
theorem Zfv {U:List Bool}{k:Nat}{v:Bool}(h:U[k]? =some v):(U.map Value.bool)[k]? =some (.bool v):=by rw[List.getElem?_map,h];rfl
theorem Z7q (A B:Option Addr)(c d:Nat)(xs ys:List CliM)(q:Bool)(hq:q=true↔SmC (xs.map CliM.x) (ys.map CliM.x))(w:World)(hA:Rd w A (xs.flatMap CliM.cs))(hB:Rd w B (ys.flatMap CliM.cs))
  (hx:∀x∈xs,CliOk w x) (hy:∀y∈ys,CliOk w y) (hlx:xs.length≤9223372036854775807) (hly:ys.length≤1048576):
  Calls Tryz.prog 20 #[.slice A xs.length c,.slice B ys.length d] w fun e w'=>e= .returned (.bool q)∧Gq w w':=by
 obtain⟨i0,hi0,hz0,hz1,hz2⟩:=info_parts infoBool;by_cases hl:xs.length=ys.length
 case neg=>have HE:Hid (q=false):=(by show _=_;rw[Bool.eq_false_iff];intro h;have:=(hq.1 h).len;simp at this;exact hl this);have hd:((xs.length:Int) !=(ys.length:Int))=true:=(by simp;omega);clear hl hq;go_enter Tryz.func20,Tryz.ntmps20;go_wp2_with fail;go_ret;exact⟨Z0a HE.o.symm,Gq.refl _⟩
 have hd:((xs.length:Int) !=(ys.length:Int))=false:=by simp;omega
 have HL:Hid (xs.length=ys.length):=hl;obtain⟨X,hX⟩:∃X,xs.map CliM.x=X:=⟨_,rfl⟩;obtain⟨Y,hY⟩:∃Y,ys.map CliM.x=Y:=⟨_,rfl⟩;have HXL:Hid (X.length=xs.length):=by show _=_;rw[←hX,List.length_map]
 have HYL:Hid (Y.length=ys.length):=by show _=_;rw[←hY,List.length_map]
 have HXK:Hid (∀k (h:k<xs.length),X[k]? =some xs[k].x∧X.getD k Z1g=xs[k].x):=fun k h=>by rw[←hX];simp[List.getD_eq_getElem?_getD,h]
 have HYK:Hid (∀k (h:k<ys.length),Y[k]? =some ys[k].x∧Y.getD k Z1g=ys[k].x):=fun k h=>by rw[←hY];simp[List.getD_eq_getElem?_getD,h]
 rw[hX,hY]at hq;have HQ:=Za hq;have HA:=Za hA;have HB:=Za hB;have HX:=Za hx;have HY:=Za hy;clear hX hY hq hA hB hx hy hl;have hlx2:xs.length≤1048576:=by have:=HL.o;omega
 have hmk:=Zd6 (P:=Tryz.prog) 71 4 i0 _ 1 Tryz.underlying71 hi0 hz0 hz1 hz2 rfl (ys.length:Int) ys.length (by omega) (by omega) (by omega);clear hi0 hz0 hz1 hz2;go_enter Tryz.func20,Tryz.ntmps20;go_wp2_with fail;have HG0:Hid (Gq w (w.alloc (.cells (zs ys.length (.bool false)).toArray 4))):=(Gq.refl _).alloc _;have HK0:Hid (Blk (w.alloc (.cells (zs ys.length (.bool false)).toArray 4)) w.heap.size 4 ((List.replicate ys.length false).map Value.bool)):=by have:=Blk.new w 4 (zs ys.length (.bool false));rw[List.map_replicate];exact this
 have HS0:Hid (SmI X Y 0 (List.replicate ys.length false)):=by rw[←HYL.o];exact SmI.start X Y
 clear hmk;generalize w.alloc (.cells (zs ys.length (.bool false)).toArray 4)=w1 at*
 go_loopw [6] (fun iv wr=>∃(i:Nat) (U:List Bool),i≤xs.length∧iv= .int .i64 (i:Int)∧Hid (SmI X Y i U)∧Hid (Blk wr w.heap.size 4 (U.map Value.bool))∧Hid (Gq w wr)) (fun iv _=>xs.length - (intOf iv).toNat)
 case atStart=>exact⟨0,_,Nat.zero_le _,rfl,HS0,HK0,HG0⟩
 case round=>
  obtain⟨i,U,hi,rfl,HSI,HK,HG⟩:=hrel;by_cases hlt:i<xs.length
  case neg=>
   have hd1:decide (i<xs.length)=false:=by simpa using hlt
   have HE:Hid (q=true):=HQ.o.2 (by
    have hix:i=X.length:=(by have:=HXL.o;omega);have h1:=HSI.o;rw[hix]at h1
    exact h1.done (by rw[HXL.o,HYL.o];exact HL.o))
   go_wp2_with fail;go_ret;exact⟨Z0a HE.o.symm,HG.o⟩
  have hd1:decide (i<xs.length)=true:=by simpa using hlt
  obtain⟨wo,hwo⟩:∃wo,wo=wr:=⟨_,rfl⟩;subst hwo;have HXI:=Za (HXK.o i hlt);have HUL:Hid (U.length=ys.length):=by show _=_;rw[HSI.o.1,HYL.o]
  have HSN:Hid ((∀k,k<ys.length→U[k]? =some true∨Y[k]? ≠X[i]?)→q=false):=fun h=>by
   rw[Bool.eq_false_iff];intro hh;have hiX:i<X.length:=(by rw[HXL.o];exact hlt);refine HSI.o.none hiX (fun k hk=> ?_) (HQ.o.1 hh);rw[HYL.o]at hk;rcases h k hk with g|g
   · exact .inl g
   · exact .inr (by rw[Zi hiX]at g;exact g)
  go_wp2_with fail
  go_loopw [7] (fun kv wr=>∃k:Nat,k≤ys.length∧kv= .int .i64 (k:Int)∧Hid (∀j,j<k→U[j]? =some true∨Y[j]? ≠X[i]?)∧Hid (Gq wo wr)) (fun kv _=>ys.length - (intOf kv).toNat)
  case atStart=>exact⟨0,Nat.zero_le _,rfl,fun j hj=>by omega,Gq.refl _⟩
  case round=>
   obtain⟨k,hk,rfl,HN,HGR⟩:=hrel;have hy1:ys.length≤1048576:=hly;by_cases hlk:k<ys.length
   case neg=>
    have hd2:decide (k<ys.length)=false:=(by simpa using hlk);have hke:((k:Int)==(ys.length:Int))=true:=(by simp;omega);have HE:Hid (q=false):=HSN.o (fun j hj=>HN.o j (by omega));go_wp2_with fail
    go_quiet (fail)
    go_wp2
    go_ret;exact⟨Z0a HE.o.symm,below_drewN (HG.o.trans HGR.o) _⟩
   have hd2:decide (k<ys.length)=true:=(by simpa using hlk);have HKR:=Za (HK.o.same (Same.of_below (S:=fun _=>True) HGR.o) trivial);have HGW:Hid (Gq w wr):=HG.o.trans HGR.o;obtain⟨u,hu⟩:∃u,U[k]? =some u:=⟨_,Zi (by rw[HUL.o];exact hlk)⟩;have hik1:(k:Int)<(ys.length:Int):=(by omega);have hik0:(0:Int)≤(k:Int):=(by omega);have hii1:(i:Int)<(xs.length:Int):=(by omega);have hii0:(0:Int)≤(i:Int):=(by omega);cases u with
   |true=>
    have cu:wr.cell? ⟨w.heap.size,k,none⟩=some (.bool true):=by rw[HKR.o.cell k,Zfv hu]
    have HN2:Hid (∀j,j<k+1→U[j]? =some true∨Y[j]? ≠X[i]?):=fun j hj=>by
     rcases Nat.lt_or_ge j k with g|g
     · exact HN.o j g
     · have:j=k:=(by omega);subst this;exact .inl hu
    clear hu;go_wp2_with fail
    go_quiet (fail)
    go_wp2
    go_roundw
    case rel=>exact⟨k+1,by omega,by go_num,HN2,below_drewN HGR.o _⟩
    case measure=>simp[intOf];omega
   |false=>
    have cu:wr.cell? ⟨w.heap.size,k,none⟩=some (.bool false):=(by rw[HKR.o.cell k,Zfv hu]);have HU:=Za hu
    obtain⟨q2,hq2⟩:∃q2:Bool,q2=true↔xs[i].x=ys[k].x:=by
     by_cases h:xs[i].x=ys[k].x
     · exact⟨true,by simp[h]⟩
     · exact⟨false,by simp[h]⟩
    have HSC:Hid (∀W,Gq wr W→Calls Tryz.prog 42 #[xs[i].v,ys[k].v] W fun e w'=>e= .returned (.bool q2)∧Gq wr w'):=fun W hW=>
     (Z8w xs[i] ys[k] q2 hq2 W ((HX.o _ (Zn hlt)).below (HGW.o.trans hW)) ((HY.o _ (Zn hlk)).below (HGW.o.trans hW))).mono fun _ _ h=>⟨h.1,hW.trans h.2⟩
    have HYE:=Za (HYK.o k hlk);have HQ2:Hid (q2=true↔Y[k]? =X[i]?):=(by show _↔_;rw[HYE.o.1,HXI.o.1,hq2,Option.some.injEq];exact eq_comm);obtain⟨b1,o1,hA1,hb1,x0,x1,x2,x3,x4,x5,x6⟩:=Z4x (HA.o.below HGW.o) hlt;obtain⟨b2,o2,hB2,hb2,y0,y1,y2,y3,y4,y5,y6⟩:=Z4x (HB.o.below HGW.o) hlk;subst hA1 hB2;clear hu hq2;have hcut0:Gq wr wr.drew:=(Gq.refl _).drew;have hcut1:Gq wr wr:=Gq.refl _;obtain⟨xi,hxi⟩:∃xi,xs[i]=xi:=⟨_,rfl⟩;obtain⟨yk,hyk⟩:∃yk,ys[k]=yk:=⟨_,rfl⟩;rw[hxi]at x0 x1 x2 x3 x4 x5 x6 HSC;rw[hyk]at y0 y1 y2 y3 y4 y5 y6 HSC;clear hxi hyk;obtain⟨xm,xc,xf,xt,xa,xl,⟨xA,xd,xe⟩⟩:=xi;obtain⟨ym,yc,yf,yt,ya,yl,⟨yA,yd,ye⟩⟩:=yk;simp only[CliM.v,Slc.v]at HSC x0 x1 x2 x3 x4 x5 x6 y0 y1 y2 y3 y4 y5 y6;generalize (xe.length:Nat)=xn at HSC x6;generalize (ye.length:Nat)=yn at HSC y6;have HS:Hid (∀W,Gq wr W→W.cell? ⟨w.heap.size,k,none⟩=some (.bool false)∧W.cell? ⟨b1,o1+i*7,none⟩=some (.string xm)∧W.cell? ⟨b1,o1+i*7+1,none⟩=some (.int .i64 xc)∧W.cell? ⟨b1,o1+i*7+2,none⟩=some (.int .i64 xf)∧W.cell? ⟨b1,o1+i*7+3,none⟩=some (.int .i64 xt)∧W.cell? ⟨b1,o1+i*7+4,none⟩=some (.int .i64 xa)∧W.cell? ⟨b1,o1+i*7+5,none⟩=some (.int .i64 xl)∧W.cell? ⟨b1,o1+i*7+6,none⟩=some (.slice xA xn xd)∧W.cell? ⟨b2,o2+k*7,none⟩=some (.string ym)∧W.cell? ⟨b2,o2+k*7+1,none⟩=some (.int .i64 yc)∧W.cell? ⟨b2,o2+k*7+2,none⟩=some (.int .i64 yf)∧W.cell? ⟨b2,o2+k*7+3,none⟩=some (.int .i64 yt)∧W.cell? ⟨b2,o2+k*7+4,none⟩=some (.int .i64 ya)∧W.cell? ⟨b2,o2+k*7+5,none⟩=some (.int .i64 yl)∧W.cell? ⟨b2,o2+k*7+6,none⟩=some (.slice yA yn yd)∧Gq wr W):=fun W hW=>(by have qu:=(Below.cell hW (p:=⟨w.heap.size,k,none⟩) (by exact HKR.o.lt)).trans cu;have qx:=fun i (u:Value) (hu:wr.cell? ⟨b1,i,none⟩=some u)=>(Below.cell hW (p:=⟨b1,i,none⟩) (by exact hb1)).trans hu;have qy:=fun i (u:Value) (hu:wr.cell? ⟨b2,i,none⟩=some u)=>(Below.cell hW (p:=⟨b2,i,none⟩) (by exact hb2)).trans hu;exact⟨qu,qx _ _ x0,qx _ _ x1,qx _ _ x2,qx _ _ x3,qx _ _ x4,qx _ _ x5,qx _ _ x6,qy _ _ y0,qy _ _ y1,qy _ _ y2,qy _ _ y3,qy _ _ y4,qy _ _ y5,qy _ _ y6,hW⟩);clear x0 x1 x2 x3 x4 x5 x6 y0 y1 y2 y3 y4 y5 y6 cu;go_upto_region 8 with(fail)
    go_cut [43] (fun v wx=>v= .bool (!q2)∧Hid (Gq wr wx))
    case first=>
     go_wp2_with fail
     go_region_held3 (fun W=>W.cell? ⟨w.heap.size,k,none⟩=some (.bool false)∧W.cell? ⟨b1,o1+i*7,none⟩=some (.string xm)∧W.cell? ⟨b1,o1+i*7+1,none⟩=some (.int .i64 xc)∧W.cell? ⟨b1,o1+i*7+2,none⟩=some (.int .i64 xf)∧W.cell? ⟨b1,o1+i*7+3,none⟩=some (.int .i64 xt)∧W.cell? ⟨b1,o1+i*7+4,none⟩=some (.int .i64 xa)∧W.cell? ⟨b1,o1+i*7+5,none⟩=some (.int .i64 xl)∧W.cell? ⟨b1,o1+i*7+6,none⟩=some (.slice xA xn xd)∧W.cell? ⟨b2,o2+k*7,none⟩=some (.string ym)∧W.cell? ⟨b2,o2+k*7+1,none⟩=some (.int .i64 yc)∧W.cell? ⟨b2,o2+k*7+2,none⟩=some (.int .i64 yf)∧W.cell? ⟨b2,o2+k*7+3,none⟩=some (.int .i64 yt)∧W.cell? ⟨b2,o2+k*7+4,none⟩=some (.int .i64 ya)∧W.cell? ⟨b2,o2+k*7+5,none⟩=some (.int .i64 yl)∧W.cell? ⟨b2,o2+k*7+6,none⟩=some (.slice yA yn yd)∧Gq wr W)
      (first|exact HS.o _ hcut0|exact HS.o _ hcut1|exact HS.o _ (Gq.trans hcut0 (by assumption))|exact HS.o _ (Gq.trans hcut1 (by assumption)))
      (first|(go_at_call 42;with_reducible refine(HSC.o _ (by first|assumption|(go_split_ands;assumption))).mono ?_;rintro e wB ⟨rfl,hqB⟩))
     all_goals
      go_wp2_with fail;go_meet
      case rel=>exact⟨rfl,by first|assumption|(show Gq _ _;assumption)⟩
    case rest=>
     obtain⟨rfl,HGC⟩:=hcut;have HGC2:Hid (Gq wo wc):=HGR.o.trans HGC.o;cases q2 with
     |false=>
      have HN2:Hid (∀j,j<k+1→U[j]? =some true∨Y[j]? ≠X[i]?):=fun j hj=>by
       rcases Nat.lt_or_ge j k with g|g
       · exact HN.o j g
       · have:j=k:=(by omega);subst this;exact .inr (fun e=>by have:=HQ2.o.2 e;cases this)
      go_wp2_with fail;go_roundw
      case rel=>exact⟨k+1,by omega,by go_num,HN2,HGC2⟩
      case measure=>simp[intOf];omega
     |true=>
      have HYX:Hid (Y[k]? =X[i]?):=HQ2.o.1 rfl;have hke:((k:Int)==(ys.length:Int))=false:=(by simp;omega);have HKC:=Za (HKR.o.same (Same.of_below (S:=fun _=>True) HGC.o) trivial);have fz:=HKC.o.frozen k;have cz:wc.cell? ⟨w.heap.size,k,none⟩=some (.bool false):=(by rw[HKC.o.cell k,Zfv HU.o]);have HK5:Hid (Blk (wc.setCell ⟨w.heap.size,k,none⟩ (.bool true)) w.heap.size 4 ((U.set k true).map Value.bool)):=(by have:=HKC.o.set_ k (.bool true);rw[←List.map_set]at this;exact this);have HG5:Hid (Gq w (wc.setCell ⟨w.heap.size,k,none⟩ (.bool true))):=(HG.o.trans HGC2.o).set (Zh _) _;simp only[Bool.not_true];go_upto_region 13 with(fail);generalize wc.setCell ⟨w.heap.size,k,none⟩ (.bool true)=w5 at*;clear cz fz;have HYI:=Za (HYK.o i (by have:=HL.o;omega));have HST:Hid ((0<i→¬Z14 (X.getD i Z1g) (X.getD (i - 1) Z1g)<0∧¬Z14 (Y.getD i Z1g) (Y.getD (i - 1) Z1g)<0)→SmI X Y (i+1) (U.set k true)):=fun h=>(by have hiX:i<X.length:=(by rw[HXL.o];exact hlt);exact HSI.o.step hiX HU.o (by rw[HYX.o,Zi hiX]) h);have HBD:Hid (0<i→(Z14 (X.getD i Z1g) (X.getD (i - 1) Z1g)<0∨Z14 (Y.getD i Z1g) (Y.getD (i - 1) Z1g)<0)→q=false):=fun h0 h=>(by rw[Bool.eq_false_iff];intro hh;exact SmI.bad (by rw[HXL.o,HYL.o];exact HL.o) h0 (by rw[HXL.o];exact hlt) h (HQ.o.1 hh));obtain⟨nb,hnb⟩:∃nb,decide (0<i∧(Z14 (X.getD i Z1g) (X.getD (i - 1) Z1g)<0∨Z14 (Y.getD i Z1g) (Y.getD (i - 1) Z1g)<0))=nb:=⟨_,rfl⟩;have HNB:=Za hnb;clear hnb HSC HQ2 HYX HYE HSN HN
      go_cut [80] (fun v wx=>v= .bool nb∧Hid (Gq w5 wx))
      case first=>
       cases i with
       |zero=>
        have HE0:Hid (nb=false):=(by show _=_;rw[←HNB.o];exact decide_eq_false (by omega));go_wp2_with fail
        go_quiet (fail)
        go_wp2_with fail;go_meet
        case rel=>exact⟨by rw[HE0.o],below_drewN (Gq.refl w5) _⟩
       |succ j=>
        have hjx:j<xs.length:=(by omega);have hjy:j<ys.length:=(by have:=HL.o;omega);have hiy:j+1<ys.length:=(by have:=HL.o;omega);have ho1:=Z7z xs[j+1].x xs[j].x;have ho2:=Z7z ys[j+1].x ys[j].x;obtain⟨oa,hoa⟩:∃oa,Z14 xs[j+1].x xs[j].x=oa:=⟨_,rfl⟩;obtain⟨ob,hob⟩:∃ob,Z14 ys[j+1].x ys[j].x=ob:=⟨_,rfl⟩;have HE0:Hid (nb=(decide (oa<0)||decide (ob<0))):=(by show _=_;rw[←HNB.o,Nat.add_sub_cancel,HXI.o.2,HYI.o.2,(HXK.o j hjx).2,(HYK.o j hjy).2,hoa,hob];simp);rw[hoa]at ho1;rw[hob]at ho2;have HO1:Hid (∀W,Gq w5 W→Calls Tryz.prog 43 #[xs[j+1].v,xs[j].v] W fun e w'=>e= .returned (.int .i64 oa)∧Gq w5 w'):=fun W hW=>(by have:=Z3d xs[j+1] xs[j] W;rw[hoa]at this;exact this.mono fun _ _ h=>⟨h.1,hW.trans h.2⟩);have HO2:Hid (∀W,Gq w5 W→Calls Tryz.prog 43 #[ys[j+1].v,ys[j].v] W fun e w'=>e= .returned (.int .i64 ob)∧Gq w5 w'):=fun W hW=>(by have:=Z3d ys[j+1] ys[j] W;rw[hob]at this;exact this.mono fun _ _ h=>⟨h.1,hW.trans h.2⟩);obtain⟨b3,o3,hA3,hb3,x0,x1,x2,x3,x4,x5,x6⟩:=Z4x (HA.o.below HG5.o) hlt;obtain⟨b4,o4,hB4,hb4,y0,y1,y2,y3,y4,y5,y6⟩:=Z4x (HB.o.below HG5.o) hiy;obtain⟨b5,o5,hA5,hb5,p0,p1,p2,p3,p4,p5,p6⟩:=Z4x (HA.o.below HG5.o) hjx;obtain⟨b6,o6,hB6,hb6,r0,r1,r2,r3,r4,r5,r6⟩:=Z4x (HB.o.below HG5.o) hjy;obtain⟨rfl,rfl⟩:b3=b1∧o3=o1:=(by injection hA3 with h;injection h with h1 h2;exact⟨h1.symm,h2.symm⟩);obtain⟨rfl,rfl⟩:b4=b2∧o4=o2:=(by injection hB4 with h;injection h with h1 h2;exact⟨h1.symm,h2.symm⟩);obtain⟨rfl,rfl⟩:b5=b3∧o5=o3:=(by injection hA5 with h;injection h with h1 h2;exact⟨h1.symm,h2.symm⟩);obtain⟨rfl,rfl⟩:b6=b4∧o6=o4:=(by injection hB6 with h;injection h with h1 h2;exact⟨h1.symm,h2.symm⟩);have hcut0:Gq w5 w5.drew:=(Gq.refl _).drew;have hcut1:Gq w5 w5:=Gq.refl _;have hB1:=hb5;have hB2:=hb6;clear hoa hob hA3 hB4 hA5 hB6 hb3 hb4 HYI HNB HST HBD HXI HXK HYK HU;generalize xs[j+1]=xi at HO1 x0 x1 x2 x3 x4 x5 x6;generalize ys[j+1]=yi at HO2 y0 y1 y2 y3 y4 y5 y6;generalize xs[j]=pi at HO1 p0 p1 p2 p3 p4 p5 p6;generalize ys[j]=ri at HO2 r0 r1 r2 r3 r4 r5 r6;obtain⟨xm,xc,xf,xt,xa,xl,⟨xA,xd,xe⟩⟩:=xi;obtain⟨ym,yc,yf,yt,ya,yl,⟨yA,yd,ye⟩⟩:=yi;obtain⟨pm,pc,pf,pt,pa,pl,⟨pA,pd,pe⟩⟩:=pi;obtain⟨rm,rc,rf,rt,ra,rl,⟨rA,rd,re⟩⟩:=ri;simp only[CliM.v,Slc.v]at HO1 HO2 x0 x1 x2 x3 x4 x5 x6 y0 y1 y2 y3 y4 y5 y6 p0 p1 p2 p3 p4 p5 p6 r0 r1 r2 r3 r4 r5 r6;generalize (xe.length:Nat)=xn at HO1 x6;generalize (ye.length:Nat)=yn at HO2 y6;generalize (pe.length:Nat)=pn at HO1 p6;generalize (re.length:Nat)=rn at HO2 r6;have HS5:Hid (∀W,Gq w5 W→W.cell? ⟨b5,o5+(j+1)*7,none⟩=some (.string xm)∧W.cell? ⟨b5,o5+(j+1)*7+1,none⟩=some (.int .i64 xc)∧W.cell? ⟨b5,o5+(j+1)*7+2,none⟩=some (.int .i64 xf)∧W.cell? ⟨b5,o5+(j+1)*7+3,none⟩=some (.int .i64 xt)∧W.cell? ⟨b5,o5+(j+1)*7+4,none⟩=some (.int .i64 xa)∧W.cell? ⟨b5,o5+(j+1)*7+5,none⟩=some (.int .i64 xl)∧W.cell? ⟨b5,o5+(j+1)*7+6,none⟩=some (.slice xA xn xd)∧W.cell? ⟨b5,o5+j*7,none⟩=some (.string pm)∧W.cell? ⟨b5,o5+j*7+1,none⟩=some (.int .i64 pc)∧W.cell? ⟨b5,o5+j*7+2,none⟩=some (.int .i64 pf)∧W.cell? ⟨b5,o5+j*7+3,none⟩=some (.int .i64 pt)∧W.cell? ⟨b5,o5+j*7+4,none⟩=some (.int .i64 pa)∧W.cell? ⟨b5,o5+j*7+5,none⟩=some (.int .i64 pl)∧W.cell? ⟨b5,o5+j*7+6,none⟩=some (.slice pA pn pd)∧W.cell? ⟨b6,o6+(j+1)*7,none⟩=some (.string ym)∧W.cell? ⟨b6,o6+(j+1)*7+1,none⟩=some (.int .i64 yc)∧W.cell? ⟨b6,o6+(j+1)*7+2,none⟩=some (.int .i64 yf)∧W.cell? ⟨b6,o6+(j+1)*7+3,none⟩=some (.int .i64 yt)∧W.cell? ⟨b6,o6+(j+1)*7+4,none⟩=some (.int .i64 ya)∧W.cell? ⟨b6,o6+(j+1)*7+5,none⟩=some (.int .i64 yl)∧W.cell? ⟨b6,o6+(j+1)*7+6,none⟩=some (.slice yA yn yd)∧W.cell? ⟨b6,o6+j*7,none⟩=some (.string rm)∧W.cell? ⟨b6,o6+j*7+1,none⟩=some (.int .i64 rc)∧W.cell? ⟨b6,o6+j*7+2,none⟩=some (.int .i64 rf)∧W.cell? ⟨b6,o6+j*7+3,none⟩=some (.int .i64 rt)∧W.cell? ⟨b6,o6+j*7+4,none⟩=some (.int .i64 ra)∧W.cell? ⟨b6,o6+j*7+5,none⟩=some (.int .i64 rl)∧W.cell? ⟨b6,o6+j*7+6,none⟩=some (.slice rA rn rd)∧Gq w5 W):=fun W hW=>(by have qx:=fun i (u:Value) (hu:w5.cell? ⟨b5,i,none⟩=some u)=>(Below.cell hW (p:=⟨b5,i,none⟩) (by exact hB1)).trans hu;have qy:=fun i (u:Value) (hu:w5.cell? ⟨b6,i,none⟩=some u)=>(Below.cell hW (p:=⟨b6,i,none⟩) (by exact hB2)).trans hu;exact⟨qx _ _ x0,qx _ _ x1,qx _ _ x2,qx _ _ x3,qx _ _ x4,qx _ _ x5,qx _ _ x6,qx _ _ p0,qx _ _ p1,qx _ _ p2,qx _ _ p3,qx _ _ p4,qx _ _ p5,qx _ _ p6,qy _ _ y0,qy _ _ y1,qy _ _ y2,qy _ _ y3,qy _ _ y4,qy _ _ y5,qy _ _ y6,qy _ _ r0,qy _ _ r1,qy _ _ r2,qy _ _ r3,qy _ _ r4,qy _ _ r5,qy _ _ r6,hW⟩);clear x0 x1 x2 x3 x4 x5 x6 y0 y1 y2 y3 y4 y5 y6 p0 p1 p2 p3 p4 p5 p6 r0 r1 r2 r3 r4 r5 r6;have j0:IntKind.i64.wrap ((j:Int)+1 - 1)=(j:Int):=(by rw[Int.add_sub_cancel];exact IntWalk.i64_in _ (by omega));have j1:(j:Int)<(xs.length:Int):=(by omega);have j1':(j:Int)<(ys.length:Int):=(by omega);have j2:(0:Int)≤(j:Int):=(by omega);have j3:decide ((0:Int)<(j:Int)+1)=true:=decide_eq_true (by omega);have j4:IntKind.i64.wrap (j:Int)=(j:Int):=IntWalk.i64_in _ (by omega);have j6:(j:Int)+1<(xs.length:Int):=(by omega);have j6':(j:Int)+1<(ys.length:Int):=(by omega);have j7:(0:Int)≤(j:Int)+1:=(by omega);clear HG5 HK5 HG HK HGR HGC HGC2 HKC HKR HGW HS;rcases ho1 with rfl|rfl|rfl
        ·
         clear ho2 HO2;obtain⟨x0,x1,x2,x3,x4,x5,x6,p0,p1,p2,p3,p4,p5,p6,_⟩:=HS5.o w5 hcut1;go_wp2_with fail;refine wp_region_held_drew (S:=fun W=>W.cell? ⟨b5,o5+(j+1)*7,none⟩=some (.string xm)∧W.cell? ⟨b5,o5+(j+1)*7+1,none⟩=some (.int .i64 xc)∧W.cell? ⟨b5,o5+(j+1)*7+2,none⟩=some (.int .i64 xf)∧W.cell? ⟨b5,o5+(j+1)*7+3,none⟩=some (.int .i64 xt)∧W.cell? ⟨b5,o5+(j+1)*7+4,none⟩=some (.int .i64 xa)∧W.cell? ⟨b5,o5+(j+1)*7+5,none⟩=some (.int .i64 xl)∧W.cell? ⟨b5,o5+(j+1)*7+6,none⟩=some (.slice xA xn xd)∧W.cell? ⟨b5,o5+j*7,none⟩=some (.string pm)∧W.cell? ⟨b5,o5+j*7+1,none⟩=some (.int .i64 pc)∧W.cell? ⟨b5,o5+j*7+2,none⟩=some (.int .i64 pf)∧W.cell? ⟨b5,o5+j*7+3,none⟩=some (.int .i64 pt)∧W.cell? ⟨b5,o5+j*7+4,none⟩=some (.int .i64 pa)∧W.cell? ⟨b5,o5+j*7+5,none⟩=some (.int .i64 pl)∧W.cell? ⟨b5,o5+j*7+6,none⟩=some (.slice pA pn pd)∧W.cell? ⟨b6,o6+(j+1)*7,none⟩=some (.string ym)∧W.cell? ⟨b6,o6+(j+1)*7+1,none⟩=some (.int .i64 yc)∧W.cell? ⟨b6,o6+(j+1)*7+2,none⟩=some (.int .i64 yf)∧W.cell? ⟨b6,o6+(j+1)*7+3,none⟩=some (.int .i64 yt)∧W.cell? ⟨b6,o6+(j+1)*7+4,none⟩=some (.int .i64 ya)∧W.cell? ⟨b6,o6+(j+1)*7+5,none⟩=some (.int .i64 yl)∧W.cell? ⟨b6,o6+(j+1)*7+6,none⟩=some (.slice yA yn yd)∧W.cell? ⟨b6,o6+j*7,none⟩=some (.string rm)∧W.cell? ⟨b6,o6+j*7+1,none⟩=some (.int .i64 rc)∧W.cell? ⟨b6,o6+j*7+2,none⟩=some (.int .i64 rf)∧W.cell? ⟨b6,o6+j*7+3,none⟩=some (.int .i64 rt)∧W.cell? ⟨b6,o6+j*7+4,none⟩=some (.int .i64 ra)∧W.cell? ⟨b6,o6+j*7+5,none⟩=some (.int .i64 rl)∧W.cell? ⟨b6,o6+j*7+6,none⟩=some (.slice rA rn rd)∧Gq w5 W) (by kernel_rfl) (HS5.o _ hcut0) (fun hHeld=> ?_);refine wpAnyH_take (i:=0) (oi:= {dst:=some 53,op:=Go.Op.move (Go.Operand.tmp 6),type:=3,pos:= "act.go:37",after:= #[],guard:=none}) (v:= ?_) rfl (by kernel_rfl) (by kernel_rfl) (by kernel_rfl) (fun _ _ _ h=>h) (Or.inl ⟨by rfl, ?_⟩) (by assumption) ?_
         rotate_left
         · (intro wS hSw; (try dsimp only at hSw);go_simp;try(with_reducible rfl))
         (try simp only[Act.put,Zb,Zc,Zd]);refine wpAnyH_take (i:=1) (oi:= {dst:=some 54,op:=Go.Op.binOp Go.BinOp.gtr 3 (Go.Operand.tmp 53) (Go.Operand.const (Go.Value.int Go.IntKind.i64 0)) 3,type:=4,pos:= "act.go:37",after:= #[{on:=0,ground:=Go.Ground.data}],guard:=none}) (v:= ?_) rfl (by kernel_rfl) (by kernel_rfl) (by kernel_rfl) (fun _ _ _ h=>h) (Or.inl ⟨by rfl, ?_⟩) (by assumption) ?_
         rotate_left
         · (intro wS hSw; (try dsimp only at hSw);go_simp;try(with_reducible rfl))
         (try simp only[Act.put,Zb,Zc,Zd]);refine wpAnyH_take (i:=2) (oi:= {dst:=some 55,op:=Go.Op.move (Go.Operand.tmp 54),type:=4,pos:= "act.go:37",after:= #[{on:=1,ground:=Go.Ground.data}],guard:=none}) (v:= ?_) rfl (by kernel_rfl) (by kernel_rfl) (by kernel_rfl) (fun _ _ _ h=>h) (Or.inl ⟨by rfl, ?_⟩) (by assumption) ?_
         rotate_left
         · (intro wS hSw; (try dsimp only at hSw);go_simp;try(with_reducible rfl))
         (try simp only[Act.put,Zb,Zc,Zd]);refine wpAnyH_take (i:=3) (oi:= {dst:=some 56,op:=Go.Op.move (Go.Operand.tmp 0),type:=22,pos:= "act.go:37",after:= #[{on:=2,ground:=Go.Ground.guard}],guard:=some (2,true)}) (v:= ?_) rfl (by kernel_rfl) (by kernel_rfl) (by kernel_rfl) (fun _ _ _ h=>h) (Or.inl ⟨by rfl, ?_⟩) (by assumption) ?_
         rotate_left
         · (intro wS hSw; (try dsimp only at hSw);go_simp;try(with_reducible rfl))
         (try simp only[Act.put,Zb,Zc,Zd]);refine wpAnyH_take (i:=4) (oi:= {dst:=some 57,op:=Go.Op.move (Go.Operand.tmp 6),type:=3,pos:= "act.go:37",after:= #[{on:=2,ground:=Go.Ground.guard}],guard:=some (2,true)}) (v:= ?_) rfl (by kernel_rfl) (by kernel_rfl) (by kernel_rfl) (fun _ _ _ h=>h) (Or.inl ⟨by rfl, ?_⟩) (by assumption) ?_
         rotate_left
         · (intro wS hSw; (try dsimp only at hSw);go_simp;try(with_reducible rfl))
         (try simp only[Act.put,Zb,Zc,Zd]);refine wpAnyH_take (i:=5) (oi:= {dst:=some 58,op:=Go.Op.indexAddr 22 (Go.Operand.tmp 56) (Go.Operand.tmp 57),type:=0,pos:= "act.go:37",after:= #[{on:=3,ground:=Go.Ground.data}, {on:=4,ground:=Go.Ground.data}, {on:=2,ground:=Go.Ground.guard}],guard:=some (2,true)}) (v:= ?_) rfl (by kernel_rfl) (by kernel_rfl) (by kernel_rfl) (fun _ _ _ h=>h) (Or.inl ⟨by rfl, ?_⟩) (by assumption) ?_
         rotate_left
         · (intro wS hSw; (try dsimp only at hSw);go_simp;try(with_reducible rfl))
         (try simp only[Act.put,Zb,Zc,Zd]);refine wpAnyH_take (i:=6) (oi:= {dst:=some 59,op:=Go.Op.load 39 (Go.Operand.tmp 58),type:=39,pos:= "act.go:37",after:= #[{on:=5,ground:=Go.Ground.data}, {on:=2,ground:=Go.Ground.guard}],guard:=some (2,true)}) (v:= ?_) rfl (by kernel_rfl) (by kernel_rfl) (by kernel_rfl) (fun _ _ _ h=>h) (Or.inl ⟨by rfl, ?_⟩) (by assumption) ?_
         rotate_left
         · (intro wS hSw; (try dsimp only at hSw);go_simp;try(with_reducible rfl))
         (try simp only[Act.put,Zb,Zc,Zd]);refine wpAnyH_take (i:=7) (oi:= {dst:=some 60,op:=Go.Op.move (Go.Operand.tmp 0),type:=22,pos:= "act.go:37",after:= #[{on:=2,ground:=Go.Ground.guard}],guard:=some (2,true)}) (v:= ?_) rfl (by kernel_rfl) (by kernel_rfl) (by kernel_rfl) (fun _ _ _ h=>h) (Or.inl ⟨by rfl, ?_⟩) (by assumption) ?_
         rotate_left
         · (intro wS hSw; (try dsimp only at hSw);go_simp;try(with_reducible rfl))
         (try simp only[Act.put,Zb,Zc,Zd]);refine wpAnyH_take (i:=8) (oi:= {dst:=some 61,op:=Go.Op.move (Go.Operand.tmp 6),type:=3,pos:= "act.go:37",after:= #[{on:=2,ground:=Go.Ground.guard}],guard:=some (2,true)}) (v:= ?_) rfl (by kernel_rfl) (by kernel_rfl) (by kernel_rfl) (fun _ _ _ h=>h) (Or.inl ⟨by rfl, ?_⟩) (by assumption) ?_
         rotate_left
         · (intro wS hSw; (try dsimp only at hSw);go_simp;try(with_reducible rfl))
         (try simp only[Act.put,Zb,Zc,Zd]);refine wpAnyH_take (i:=9) (oi:= {dst:=some 62,op:=Go.Op.binOp Go.BinOp.sub 3 (Go.Operand.tmp 61) (Go.Operand.const (Go.Value.int Go.IntKind.i64 1)) 3,type:=3,pos:= "act.go:37",after:= #[{on:=8,ground:=Go.Ground.data}, {on:=2,ground:=Go.Ground.guard}],guard:=some (2,true)}) (v:= ?_) rfl (by kernel_rfl) (by kernel_rfl) (by kernel_rfl) (fun _ _ _ h=>h) (Or.inl ⟨by rfl, ?_⟩) (by assumption) ?_
         rotate_left
         · (intro wS hSw; (try dsimp only at hSw);go_simp;try(with_reducible rfl))
         (try simp only[Act.put,Zb,Zc,Zd]);refine wpAnyH_take (i:=10) (oi:= {dst:=some 63,op:=Go.Op.indexAddr 22 (Go.Operand.tmp 60) (Go.Operand.tmp 62),type:=0,pos:= "act.go:37",after:= #[{on:=7,ground:=Go.Ground.data}, {on:=9,ground:=Go.Ground.data}, {on:=2,ground:=Go.Ground.guard}],guard:=some (2,true)}) (v:= ?_) rfl (by kernel_rfl) (by kernel_rfl) (by kernel_rfl) (fun _ _ _ h=>h) (Or.inl ⟨by rfl, ?_⟩) (by assumption) ?_
         rotate_left
         · (intro wS hSw; (try dsimp only at hSw);go_simp;try(with_reducible rfl))
         (try simp only[Act.put,Zb,Zc,Zd]);refine wpAnyH_take (i:=11) (oi:= {dst:=some 64,op:=Go.Op.load 39 (Go.Operand.tmp 63),type:=39,pos:= "act.go:37",after:= #[{on:=10,ground:=Go.Ground.data}, {on:=2,ground:=Go.Ground.guard}],guard:=some (2,true)}) (v:= ?_) rfl (by kernel_rfl) (by kernel_rfl) (by kernel_rfl) (fun _ _ _ h=>h) (Or.inl ⟨by rfl, ?_⟩) (by assumption) ?_
         rotate_left
         · (intro wS hSw; (try dsimp only at hSw);go_simp;try(with_reducible rfl))
         (try simp only[Act.put,Zb,Zc,Zd]);refine wpAnyH_ready (rs:= [12]) (by kernel_rfl) (by simp) ?_;refine AllReadyH.cons (o:= {dst:=some 65,op:=Go.Op.call {callee:=Go.Callee.value (Go.Operand.func 43),args:= #[Go.Operand.tmp 59,Go.Operand.tmp 64],argTypes:= #[39,39]},type:=3,pos:= "act.go:37",after:= #[{on:=6,ground:=Go.Ground.data}, {on:=11,ground:=Go.Ground.data}, {on:=2,ground:=Go.Ground.chain}, {on:=2,ground:=Go.Ground.guard}],guard:=some (2,true)}) rfl (fun K hK=> ?_) AllReadyH.nil;go_simp;(with_reducible refine(HO1.o _ hcut0).mono ?_);rintro e wB ⟨rfl,hqB⟩;go_wp2_with fail;refine hK.out _ _ (HS5.o _ hqB) (fun hHeld=> ?_);clear hK K;(try simp only[Act.put,Zb,Zc,Zd]);refine wpAnyH_take (i:=13) (oi:= {dst:=some 66,op:=Go.Op.binOp Go.BinOp.lss 3 (Go.Operand.tmp 65) (Go.Operand.const (Go.Value.int Go.IntKind.i64 0)) 3,type:=4,pos:= "act.go:37",after:= #[{on:=12,ground:=Go.Ground.data}, {on:=2,ground:=Go.Ground.guard}],guard:=some (2,true)}) (v:= ?_) rfl (by kernel_rfl) (by kernel_rfl) (by kernel_rfl) (fun _ _ _ h=>h) (Or.inl ⟨by rfl, ?_⟩) (by assumption) ?_
         rotate_left
         · (intro wS hSw; (try dsimp only at hSw);go_simp;try(with_reducible rfl))
         (try simp only[Act.put,Zb,Zc,Zd]);refine wpAnyH_take (i:=14) (oi:= {dst:=some 67,op:=Go.Op.move (Go.Operand.tmp 66),type:=4,pos:= "act.go:37",after:= #[{on:=13,ground:=Go.Ground.data}, {on:=12,ground:=Go.Ground.chain}, {on:=2,ground:=Go.Ground.guard}],guard:=some (2,true)}) (v:= ?_) rfl (by kernel_rfl) (by kernel_rfl) (by kernel_rfl) (fun _ _ _ h=>h) (Or.inl ⟨by rfl, ?_⟩) (by assumption) ?_
         rotate_left
         · (intro wS hSw; (try dsimp only at hSw);go_simp;try(with_reducible rfl))
         (try simp only[Act.put,Zb,Zc,Zd]);refine wpAnyH_take (i:=15) (oi:= {dst:=some 68,op:=Go.Op.move (Go.Operand.tmp 1),type:=22,pos:= "act.go:37",after:= #[{on:=14,ground:=Go.Ground.guard}],guard:=some (14,false)}) (v:=undef) rfl (by kernel_rfl) (by kernel_rfl) (by kernel_rfl) (fun _ _ _ h=>h) (Or.inr ⟨by rfl,rfl⟩) (by assumption) ?_;(try simp only[Act.put,Zb,Zc,Zd]);refine wpAnyH_take (i:=16) (oi:= {dst:=some 69,op:=Go.Op.move (Go.Operand.tmp 6),type:=3,pos:= "act.go:37",after:= #[{on:=14,ground:=Go.Ground.guard}],guard:=some (14,false)}) (v:=undef) rfl (by kernel_rfl) (by kernel_rfl) (by kernel_rfl) (fun _ _ _ h=>h) (Or.inr ⟨by rfl,rfl⟩) (by assumption) ?_;(try simp only[Act.put,Zb,Zc,Zd]);refine wpAnyH_take (i:=17) (oi:= {dst:=some 70,op:=Go.Op.indexAddr 22 (Go.Operand.tmp 68) (Go.Operand.tmp 69),type:=0,pos:= "act.go:37",after:= #[{on:=15,ground:=Go.Ground.data}, {on:=16,ground:=Go.Ground.data}, {on:=14,ground:=Go.Ground.guard}],guard:=some (14,false)}) (v:=undef) rfl (by kernel_rfl) (by kernel_rfl) (by kernel_rfl) (fun _ _ _ h=>h) (Or.inr ⟨by rfl,rfl⟩) (by assumption) ?_;(try simp only[Act.put,Zb,Zc,Zd]);refine wpAnyH_take (i:=18) (oi:= {dst:=some 71,op:=Go.Op.load 39 (Go.Operand.tmp 70),type:=39,pos:= "act.go:37",after:= #[{on:=17,ground:=Go.Ground.data}, {on:=14,ground:=Go.Ground.guard}],guard:=some (14,false)}) (v:=undef) rfl (by kernel_rfl) (by kernel_rfl) (by kernel_rfl) (fun _ _ _ h=>h) (Or.inr ⟨by rfl,rfl⟩) (by assumption) ?_;(try simp only[Act.put,Zb,Zc,Zd]);refine wpAnyH_take (i:=19) (oi:= {dst:=some 72,op:=Go.Op.move (Go.Operand.tmp 1),type:=22,pos:= "act.go:37",after:= #[{on:=14,ground:=Go.Ground.guard}],guard:=some (14,false)}) (v:=undef) rfl (by kernel_rfl) (by kernel_rfl) (by kernel_rfl) (fun _ _ _ h=>h) (Or.inr ⟨by rfl,rfl⟩) (by assumption) ?_;(try simp only[Act.put,Zb,Zc,Zd]);refine wpAnyH_take (i:=20) (oi:= {dst:=some 73,op:=Go.Op.move (Go.Operand.tmp 6),type:=3,pos:= "act.go:37",after:= #[{on:=14,ground:=Go.Ground.guard}],guard:=some (14,false)}) (v:=undef) rfl (by kernel_rfl) (by kernel_rfl) (by kernel_rfl) (fun _ _ _ h=>h) (Or.inr ⟨by rfl,rfl⟩) (by assumption) ?_;(try simp only[Act.put,Zb,Zc,Zd]);refine wpAnyH_take (i:=21) (oi:= {dst:=some 74,op:=Go.Op.binOp Go.BinOp.sub 3 (Go.Operand.tmp 73) (Go.Operand.const (Go.Value.int Go.IntKind.i64 1)) 3,type:=3,pos:= "act.go:37",after:= #[{on:=20,ground:=Go.Ground.data}, {on:=14,ground:=Go.Ground.guard}],guard:=some (14,false)}) (v:=undef) rfl (by kernel_rfl) (by kernel_rfl) (by kernel_rfl) (fun _ _ _ h=>h) (Or.inr ⟨by rfl,rfl⟩) (by assumption) ?_;(try simp only[Act.put,Zb,Zc,Zd]);refine wpAnyH_take (i:=22) (oi:= {dst:=some 75,op:=Go.Op.indexAddr 22 (Go.Operand.tmp 72) (Go.Operand.tmp 74),type:=0,pos:= "act.go:37",after:= #[{on:=19,ground:=Go.Ground.data}, {on:=21,ground:=Go.Ground.data}, {on:=14,ground:=Go.Ground.guard}],guard:=some (14,false)}) (v:=undef) rfl (by kernel_rfl) (by kernel_rfl) (by kernel_rfl) (fun _ _ _ h=>h) (Or.inr ⟨by rfl,rfl⟩) (by assumption) ?_;(try simp only[Act.put,Zb,Zc,Zd]);refine wpAnyH_take (i:=23) (oi:= {dst:=some 76,op:=Go.Op.load 39 (Go.Operand.tmp 75),type:=39,pos:= "act.go:37",after:= #[{on:=22,ground:=Go.Ground.data}, {on:=14,ground:=Go.Ground.guard}],guard:=some (14,false)}) (v:=undef) rfl (by kernel_rfl) (by kernel_rfl) (by kernel_rfl) (fun _ _ _ h=>h) (Or.inr ⟨by rfl,rfl⟩) (by assumption) ?_;(try simp only[Act.put,Zb,Zc,Zd]);refine wpAnyH_take (i:=24) (oi:= {dst:=some 77,op:=Go.Op.call {callee:=Go.Callee.value (Go.Operand.func 43),args:= #[Go.Operand.tmp 71,Go.Operand.tmp 76],argTypes:= #[39,39]},type:=3,pos:= "act.go:37",after:= #[{on:=18,ground:=Go.Ground.data}, {on:=23,ground:=Go.Ground.data}, {on:=14,ground:=Go.Ground.chain}, {on:=14,ground:=Go.Ground.guard}],guard:=some (14,false)}) (v:=undef) rfl (by kernel_rfl) (by kernel_rfl) (by kernel_rfl) (fun _ _ _ h=>h) (Or.inr ⟨by rfl,rfl⟩) (by assumption) ?_;(try simp only[Act.put,Zb,Zc,Zd]);refine wpAnyH_take (i:=25) (oi:= {dst:=some 78,op:=Go.Op.binOp Go.BinOp.lss 3 (Go.Operand.tmp 77) (Go.Operand.const (Go.Value.int Go.IntKind.i64 0)) 3,type:=4,pos:= "act.go:37",after:= #[{on:=24,ground:=Go.Ground.data}, {on:=14,ground:=Go.Ground.guard}],guard:=some (14,false)}) (v:=undef) rfl (by kernel_rfl) (by kernel_rfl) (by kernel_rfl) (fun _ _ _ h=>h) (Or.inr ⟨by rfl,rfl⟩) (by assumption) ?_;(try simp only[Act.put,Zb,Zc,Zd]);refine wpAnyH_take (i:=26) (oi:= {dst:=some 79,op:=Go.Op.pick (Go.Operand.tmp 67) (Go.Operand.const (Go.Value.bool true)) (Go.Operand.tmp 78),type:=4,pos:= "act.go:37",after:= #[{on:=14,ground:=Go.Ground.data}, {on:=25,ground:=Go.Ground.data}, {on:=2,ground:=Go.Ground.guard}],guard:=some (2,true)}) (v:= ?_) rfl (by kernel_rfl) (by kernel_rfl) (by kernel_rfl) (fun _ _ _ h=>h) (Or.inl ⟨by rfl, ?_⟩) (by assumption) ?_
         rotate_left
         · (intro wS hSw; (try dsimp only at hSw);go_simp;try(with_reducible rfl))
         (try simp only[Act.put,Zb,Zc,Zd]);refine wpAnyH_take (i:=27) (oi:= {dst:=some 80,op:=Go.Op.pick (Go.Operand.tmp 55) (Go.Operand.tmp 79) (Go.Operand.const (Go.Value.bool false)),type:=4,pos:= "act.go:37",after:= #[{on:=2,ground:=Go.Ground.data}, {on:=26,ground:=Go.Ground.data}],guard:=none}) (v:= ?_) rfl (by kernel_rfl) (by kernel_rfl) (by kernel_rfl) (fun _ _ _ h=>h) (Or.inl ⟨by rfl, ?_⟩) (by assumption) ?_
         rotate_left
         · (intro wS hSw; (try dsimp only at hSw);go_simp;try(with_reducible rfl))
         (try simp only[Act.put,Zb,Zc,Zd]);refine wpAnyH_done (by kernel_rfl) ?_ _;go_wp2_with fail;go_meet
         case rel=>exact⟨by rw[HE0.o];rfl,hqB⟩
        ·
         rcases ho2 with rfl|rfl|rfl
         ·
          go_wp2_with fail
          go_region_held3 (fun W=>W.cell? ⟨b5,o5+(j+1)*7,none⟩=some (.string xm)∧W.cell? ⟨b5,o5+(j+1)*7+1,none⟩=some (.int .i64 xc)∧W.cell? ⟨b5,o5+(j+1)*7+2,none⟩=some (.int .i64 xf)∧W.cell? ⟨b5,o5+(j+1)*7+3,none⟩=some (.int .i64 xt)∧W.cell? ⟨b5,o5+(j+1)*7+4,none⟩=some (.int .i64 xa)∧W.cell? ⟨b5,o5+(j+1)*7+5,none⟩=some (.int .i64 xl)∧W.cell? ⟨b5,o5+(j+1)*7+6,none⟩=some (.slice xA xn xd)∧W.cell? ⟨b5,o5+j*7,none⟩=some (.string pm)∧W.cell? ⟨b5,o5+j*7+1,none⟩=some (.int .i64 pc)∧W.cell? ⟨b5,o5+j*7+2,none⟩=some (.int .i64 pf)∧W.cell? ⟨b5,o5+j*7+3,none⟩=some (.int .i64 pt)∧W.cell? ⟨b5,o5+j*7+4,none⟩=some (.int .i64 pa)∧W.cell? ⟨b5,o5+j*7+5,none⟩=some (.int .i64 pl)∧W.cell? ⟨b5,o5+j*7+6,none⟩=some (.slice pA pn pd)∧W.cell? ⟨b6,o6+(j+1)*7,none⟩=some (.string ym)∧W.cell? ⟨b6,o6+(j+1)*7+1,none⟩=some (.int .i64 yc)∧W.cell? ⟨b6,o6+(j+1)*7+2,none⟩=some (.int .i64 yf)∧W.cell? ⟨b6,o6+(j+1)*7+3,none⟩=some (.int .i64 yt)∧W.cell? ⟨b6,o6+(j+1)*7+4,none⟩=some (.int .i64 ya)∧W.cell? ⟨b6,o6+(j+1)*7+5,none⟩=some (.int .i64 yl)∧W.cell? ⟨b6,o6+(j+1)*7+6,none⟩=some (.slice yA yn yd)∧W.cell? ⟨b6,o6+j*7,none⟩=some (.string rm)∧W.cell? ⟨b6,o6+j*7+1,none⟩=some (.int .i64 rc)∧W.cell? ⟨b6,o6+j*7+2,none⟩=some (.int .i64 rf)∧W.cell? ⟨b6,o6+j*7+3,none⟩=some (.int .i64 rt)∧W.cell? ⟨b6,o6+j*7+4,none⟩=some (.int .i64 ra)∧W.cell? ⟨b6,o6+j*7+5,none⟩=some (.int .i64 rl)∧W.cell? ⟨b6,o6+j*7+6,none⟩=some (.slice rA rn rd)∧Gq w5 W)
           (first|exact HS5.o _ hcut0|exact HS5.o _ hcut1|exact HS5.o _ (Gq.trans hcut0 (by assumption))|exact HS5.o _ (Gq.trans hcut1 (by assumption)))
           (first|(go_at_call 43;with_reducible refine(HO1.o _ (by first|assumption|(go_split_ands;assumption))).mono ?_;rintro e wB ⟨rfl,hqB⟩)|(go_at_call 43;with_reducible refine(HO2.o _ (by first|assumption|(go_split_ands;assumption))).mono ?_;rintro e wB ⟨rfl,hqB⟩))
          all_goals
           go_wp2_with fail;go_meet
           case rel=>exact⟨by rw[HE0.o];rfl,by first|assumption|(show Gq _ _;assumption)⟩
         ·
          go_wp2_with fail
          go_region_held3 (fun W=>W.cell? ⟨b5,o5+(j+1)*7,none⟩=some (.string xm)∧W.cell? ⟨b5,o5+(j+1)*7+1,none⟩=some (.int .i64 xc)∧W.cell? ⟨b5,o5+(j+1)*7+2,none⟩=some (.int .i64 xf)∧W.cell? ⟨b5,o5+(j+1)*7+3,none⟩=some (.int .i64 xt)∧W.cell? ⟨b5,o5+(j+1)*7+4,none⟩=some (.int .i64 xa)∧W.cell? ⟨b5,o5+(j+1)*7+5,none⟩=some (.int .i64 xl)∧W.cell? ⟨b5,o5+(j+1)*7+6,none⟩=some (.slice xA xn xd)∧W.cell? ⟨b5,o5+j*7,none⟩=some (.string pm)∧W.cell? ⟨b5,o5+j*7+1,none⟩=some (.int .i64 pc)∧W.cell? ⟨b5,o5+j*7+2,none⟩=some (.int .i64 pf)∧W.cell? ⟨b5,o5+j*7+3,none⟩=some (.int .i64 pt)∧W.cell? ⟨b5,o5+j*7+4,none⟩=some (.int .i64 pa)∧W.cell? ⟨b5,o5+j*7+5,none⟩=some (.int .i64 pl)∧W.cell? ⟨b5,o5+j*7+6,none⟩=some (.slice pA pn pd)∧W.cell? ⟨b6,o6+(j+1)*7,none⟩=some (.string ym)∧W.cell? ⟨b6,o6+(j+1)*7+1,none⟩=some (.int .i64 yc)∧W.cell? ⟨b6,o6+(j+1)*7+2,none⟩=some (.int .i64 yf)∧W.cell? ⟨b6,o6+(j+1)*7+3,none⟩=some (.int .i64 yt)∧W.cell? ⟨b6,o6+(j+1)*7+4,none⟩=some (.int .i64 ya)∧W.cell? ⟨b6,o6+(j+1)*7+5,none⟩=some (.int .i64 yl)∧W.cell? ⟨b6,o6+(j+1)*7+6,none⟩=some (.slice yA yn yd)∧W.cell? ⟨b6,o6+j*7,none⟩=some (.string rm)∧W.cell? ⟨b6,o6+j*7+1,none⟩=some (.int .i64 rc)∧W.cell? ⟨b6,o6+j*7+2,none⟩=some (.int .i64 rf)∧W.cell? ⟨b6,o6+j*7+3,none⟩=some (.int .i64 rt)∧W.cell? ⟨b6,o6+j*7+4,none⟩=some (.int .i64 ra)∧W.cell? ⟨b6,o6+j*7+5,none⟩=some (.int .i64 rl)∧W.cell? ⟨b6,o6+j*7+6,none⟩=some (.slice rA rn rd)∧Gq w5 W)
           (first|exact HS5.o _ hcut0|exact HS5.o _ hcut1|exact HS5.o _ (Gq.trans hcut0 (by assumption))|exact HS5.o _ (Gq.trans hcut1 (by assumption)))
           (first|(go_at_call 43;with_reducible refine(HO1.o _ (by first|assumption|(go_split_ands;assumption))).mono ?_;rintro e wB ⟨rfl,hqB⟩)|(go_at_call 43;with_reducible refine(HO2.o _ (by first|assumption|(go_split_ands;assumption))).mono ?_;rintro e wB ⟨rfl,hqB⟩))
          all_goals
           go_wp2_with fail;go_meet
           case rel=>exact⟨by rw[HE0.o];rfl,by first|assumption|(show Gq _ _;assumption)⟩
         ·
          go_wp2_with fail
          go_region_held3 (fun W=>W.cell? ⟨b5,o5+(j+1)*7,none⟩=some (.string xm)∧W.cell? ⟨b5,o5+(j+1)*7+1,none⟩=some (.int .i64 xc)∧W.cell? ⟨b5,o5+(j+1)*7+2,none⟩=some (.int .i64 xf)∧W.cell? ⟨b5,o5+(j+1)*7+3,none⟩=some (.int .i64 xt)∧W.cell? ⟨b5,o5+(j+1)*7+4,none⟩=some (.int .i64 xa)∧W.cell? ⟨b5,o5+(j+1)*7+5,none⟩=some (.int .i64 xl)∧W.cell? ⟨b5,o5+(j+1)*7+6,none⟩=some (.slice xA xn xd)∧W.cell? ⟨b5,o5+j*7,none⟩=some (.string pm)∧W.cell? ⟨b5,o5+j*7+1,none⟩=some (.int .i64 pc)∧W.cell? ⟨b5,o5+j*7+2,none⟩=some (.int .i64 pf)∧W.cell? ⟨b5,o5+j*7+3,none⟩=some (.int .i64 pt)∧W.cell? ⟨b5,o5+j*7+4,none⟩=some (.int .i64 pa)∧W.cell? ⟨b5,o5+j*7+5,none⟩=some (.int .i64 pl)∧W.cell? ⟨b5,o5+j*7+6,none⟩=some (.slice pA pn pd)∧W.cell? ⟨b6,o6+(j+1)*7,none⟩=some (.string ym)∧W.cell? ⟨b6,o6+(j+1)*7+1,none⟩=some (.int .i64 yc)∧W.cell? ⟨b6,o6+(j+1)*7+2,none⟩=some (.int .i64 yf)∧W.cell? ⟨b6,o6+(j+1)*7+3,none⟩=some (.int .i64 yt)∧W.cell? ⟨b6,o6+(j+1)*7+4,none⟩=some (.int .i64 ya)∧W.cell? ⟨b6,o6+(j+1)*7+5,none⟩=some (.int .i64 yl)∧W.cell? ⟨b6,o6+(j+1)*7+6,none⟩=some (.slice yA yn yd)∧W.cell? ⟨b6,o6+j*7,none⟩=some (.string rm)∧W.cell? ⟨b6,o6+j*7+1,none⟩=some (.int .i64 rc)∧W.cell? ⟨b6,o6+j*7+2,none⟩=some (.int .i64 rf)∧W.cell? ⟨b6,o6+j*7+3,none⟩=some (.int .i64 rt)∧W.cell? ⟨b6,o6+j*7+4,none⟩=some (.int .i64 ra)∧W.cell? ⟨b6,o6+j*7+5,none⟩=some (.int .i64 rl)∧W.cell? ⟨b6,o6+j*7+6,none⟩=some (.slice rA rn rd)∧Gq w5 W)
           (first|exact HS5.o _ hcut0|exact HS5.o _ hcut1|exact HS5.o _ (Gq.trans hcut0 (by assumption))|exact HS5.o _ (Gq.trans hcut1 (by assumption)))
           (first|(go_at_call 43;with_reducible refine(HO1.o _ (by first|assumption|(go_split_ands;assumption))).mono ?_;rintro e wB ⟨rfl,hqB⟩)|(go_at_call 43;with_reducible refine(HO2.o _ (by first|assumption|(go_split_ands;assumption))).mono ?_;rintro e wB ⟨rfl,hqB⟩))
          all_goals
           go_wp2_with fail;go_meet
           case rel=>exact⟨by rw[HE0.o];rfl,by first|assumption|(show Gq _ _;assumption)⟩
        ·
         rcases ho2 with rfl|rfl|rfl
         ·
          go_wp2_with fail
          go_region_held3 (fun W=>W.cell? ⟨b5,o5+(j+1)*7,none⟩=some (.string xm)∧W.cell? ⟨b5,o5+(j+1)*7+1,none⟩=some (.int .i64 xc)∧W.cell? ⟨b5,o5+(j+1)*7+2,none⟩=some (.int .i64 xf)∧W.cell? ⟨b5,o5+(j+1)*7+3,none⟩=some (.int .i64 xt)∧W.cell? ⟨b5,o5+(j+1)*7+4,none⟩=some (.int .i64 xa)∧W.cell? ⟨b5,o5+(j+1)*7+5,none⟩=some (.int .i64 xl)∧W.cell? ⟨b5,o5+(j+1)*7+6,none⟩=some (.slice xA xn xd)∧W.cell? ⟨b5,o5+j*7,none⟩=some (.string pm)∧W.cell? ⟨b5,o5+j*7+1,none⟩=some (.int .i64 pc)∧W.cell? ⟨b5,o5+j*7+2,none⟩=some (.int .i64 pf)∧W.cell? ⟨b5,o5+j*7+3,none⟩=some (.int .i64 pt)∧W.cell? ⟨b5,o5+j*7+4,none⟩=some (.int .i64 pa)∧W.cell? ⟨b5,o5+j*7+5,none⟩=some (.int .i64 pl)∧W.cell? ⟨b5,o5+j*7+6,none⟩=some (.slice pA pn pd)∧W.cell? ⟨b6,o6+(j+1)*7,none⟩=some (.string ym)∧W.cell? ⟨b6,o6+(j+1)*7+1,none⟩=some (.int .i64 yc)∧W.cell? ⟨b6,o6+(j+1)*7+2,none⟩=some (.int .i64 yf)∧W.cell? ⟨b6,o6+(j+1)*7+3,none⟩=some (.int .i64 yt)∧W.cell? ⟨b6,o6+(j+1)*7+4,none⟩=some (.int .i64 ya)∧W.cell? ⟨b6,o6+(j+1)*7+5,none⟩=some (.int .i64 yl)∧W.cell? ⟨b6,o6+(j+1)*7+6,none⟩=some (.slice yA yn yd)∧W.cell? ⟨b6,o6+j*7,none⟩=some (.string rm)∧W.cell? ⟨b6,o6+j*7+1,none⟩=some (.int .i64 rc)∧W.cell? ⟨b6,o6+j*7+2,none⟩=some (.int .i64 rf)∧W.cell? ⟨b6,o6+j*7+3,none⟩=some (.int .i64 rt)∧W.cell? ⟨b6,o6+j*7+4,none⟩=some (.int .i64 ra)∧W.cell? ⟨b6,o6+j*7+5,none⟩=some (.int .i64 rl)∧W.cell? ⟨b6,o6+j*7+6,none⟩=some (.slice rA rn rd)∧Gq w5 W)
           (first|exact HS5.o _ hcut0|exact HS5.o _ hcut1|exact HS5.o _ (Gq.trans hcut0 (by assumption))|exact HS5.o _ (Gq.trans hcut1 (by assumption)))
           (first|(go_at_call 43;with_reducible refine(HO1.o _ (by first|assumption|(go_split_ands;assumption))).mono ?_;rintro e wB ⟨rfl,hqB⟩)|(go_at_call 43;with_reducible refine(HO2.o _ (by first|assumption|(go_split_ands;assumption))).mono ?_;rintro e wB ⟨rfl,hqB⟩))
          all_goals
           go_wp2_with fail;go_meet
           case rel=>exact⟨by rw[HE0.o];rfl,by first|assumption|(show Gq _ _;assumption)⟩
         ·
          go_wp2_with fail
          go_region_held3 (fun W=>W.cell? ⟨b5,o5+(j+1)*7,none⟩=some (.string xm)∧W.cell? ⟨b5,o5+(j+1)*7+1,none⟩=some (.int .i64 xc)∧W.cell? ⟨b5,o5+(j+1)*7+2,none⟩=some (.int .i64 xf)∧W.cell? ⟨b5,o5+(j+1)*7+3,none⟩=some (.int .i64 xt)∧W.cell? ⟨b5,o5+(j+1)*7+4,none⟩=some (.int .i64 xa)∧W.cell? ⟨b5,o5+(j+1)*7+5,none⟩=some (.int .i64 xl)∧W.cell? ⟨b5,o5+(j+1)*7+6,none⟩=some (.slice xA xn xd)∧W.cell? ⟨b5,o5+j*7,none⟩=some (.string pm)∧W.cell? ⟨b5,o5+j*7+1,none⟩=some (.int .i64 pc)∧W.cell? ⟨b5,o5+j*7+2,none⟩=some (.int .i64 pf)∧W.cell? ⟨b5,o5+j*7+3,none⟩=some (.int .i64 pt)∧W.cell? ⟨b5,o5+j*7+4,none⟩=some (.int .i64 pa)∧W.cell? ⟨b5,o5+j*7+5,none⟩=some (.int .i64 pl)∧W.cell? ⟨b5,o5+j*7+6,none⟩=some (.slice pA pn pd)∧W.cell? ⟨b6,o6+(j+1)*7,none⟩=some (.string ym)∧W.cell? ⟨b6,o6+(j+1)*7+1,none⟩=some (.int .i64 yc)∧W.cell? ⟨b6,o6+(j+1)*7+2,none⟩=some (.int .i64 yf)∧W.cell? ⟨b6,o6+(j+1)*7+3,none⟩=some (.int .i64 yt)∧W.cell? ⟨b6,o6+(j+1)*7+4,none⟩=some (.int .i64 ya)∧W.cell? ⟨b6,o6+(j+1)*7+5,none⟩=some (.int .i64 yl)∧W.cell? ⟨b6,o6+(j+1)*7+6,none⟩=some (.slice yA yn yd)∧W.cell? ⟨b6,o6+j*7,none⟩=some (.string rm)∧W.cell? ⟨b6,o6+j*7+1,none⟩=some (.int .i64 rc)∧W.cell? ⟨b6,o6+j*7+2,none⟩=some (.int .i64 rf)∧W.cell? ⟨b6,o6+j*7+3,none⟩=some (.int .i64 rt)∧W.cell? ⟨b6,o6+j*7+4,none⟩=some (.int .i64 ra)∧W.cell? ⟨b6,o6+j*7+5,none⟩=some (.int .i64 rl)∧W.cell? ⟨b6,o6+j*7+6,none⟩=some (.slice rA rn rd)∧Gq w5 W)
           (first|exact HS5.o _ hcut0|exact HS5.o _ hcut1|exact HS5.o _ (Gq.trans hcut0 (by assumption))|exact HS5.o _ (Gq.trans hcut1 (by assumption)))
           (first|(go_at_call 43;with_reducible refine(HO1.o _ (by first|assumption|(go_split_ands;assumption))).mono ?_;rintro e wB ⟨rfl,hqB⟩)|(go_at_call 43;with_reducible refine(HO2.o _ (by first|assumption|(go_split_ands;assumption))).mono ?_;rintro e wB ⟨rfl,hqB⟩))
          all_goals
           go_wp2_with fail;go_meet
           case rel=>exact⟨by rw[HE0.o];rfl,by first|assumption|(show Gq _ _;assumption)⟩
         ·
          go_wp2_with fail
          go_region_held3 (fun W=>W.cell? ⟨b5,o5+(j+1)*7,none⟩=some (.string xm)∧W.cell? ⟨b5,o5+(j+1)*7+1,none⟩=some (.int .i64 xc)∧W.cell? ⟨b5,o5+(j+1)*7+2,none⟩=some (.int .i64 xf)∧W.cell? ⟨b5,o5+(j+1)*7+3,none⟩=some (.int .i64 xt)∧W.cell? ⟨b5,o5+(j+1)*7+4,none⟩=some (.int .i64 xa)∧W.cell? ⟨b5,o5+(j+1)*7+5,none⟩=some (.int .i64 xl)∧W.cell? ⟨b5,o5+(j+1)*7+6,none⟩=some (.slice xA xn xd)∧W.cell? ⟨b5,o5+j*7,none⟩=some (.string pm)∧W.cell? ⟨b5,o5+j*7+1,none⟩=some (.int .i64 pc)∧W.cell? ⟨b5,o5+j*7+2,none⟩=some (.int .i64 pf)∧W.cell? ⟨b5,o5+j*7+3,none⟩=some (.int .i64 pt)∧W.cell? ⟨b5,o5+j*7+4,none⟩=some (.int .i64 pa)∧W.cell? ⟨b5,o5+j*7+5,none⟩=some (.int .i64 pl)∧W.cell? ⟨b5,o5+j*7+6,none⟩=some (.slice pA pn pd)∧W.cell? ⟨b6,o6+(j+1)*7,none⟩=some (.string ym)∧W.cell? ⟨b6,o6+(j+1)*7+1,none⟩=some (.int .i64 yc)∧W.cell? ⟨b6,o6+(j+1)*7+2,none⟩=some (.int .i64 yf)∧W.cell? ⟨b6,o6+(j+1)*7+3,none⟩=some (.int .i64 yt)∧W.cell? ⟨b6,o6+(j+1)*7+4,none⟩=some (.int .i64 ya)∧W.cell? ⟨b6,o6+(j+1)*7+5,none⟩=some (.int .i64 yl)∧W.cell? ⟨b6,o6+(j+1)*7+6,none⟩=some (.slice yA yn yd)∧W.cell? ⟨b6,o6+j*7,none⟩=some (.string rm)∧W.cell? ⟨b6,o6+j*7+1,none⟩=some (.int .i64 rc)∧W.cell? ⟨b6,o6+j*7+2,none⟩=some (.int .i64 rf)∧W.cell? ⟨b6,o6+j*7+3,none⟩=some (.int .i64 rt)∧W.cell? ⟨b6,o6+j*7+4,none⟩=some (.int .i64 ra)∧W.cell? ⟨b6,o6+j*7+5,none⟩=some (.int .i64 rl)∧W.cell? ⟨b6,o6+j*7+6,none⟩=some (.slice rA rn rd)∧Gq w5 W)
           (first|exact HS5.o _ hcut0|exact HS5.o _ hcut1|exact HS5.o _ (Gq.trans hcut0 (by assumption))|exact HS5.o _ (Gq.trans hcut1 (by assumption)))
           (first|(go_at_call 43;with_reducible refine(HO1.o _ (by first|assumption|(go_split_ands;assumption))).mono ?_;rintro e wB ⟨rfl,hqB⟩)|(go_at_call 43;with_reducible refine(HO2.o _ (by first|assumption|(go_split_ands;assumption))).mono ?_;rintro e wB ⟨rfl,hqB⟩))
          all_goals
           go_wp2_with fail;go_meet
           case rel=>exact⟨by rw[HE0.o];rfl,by first|assumption|(show Gq _ _;assumption)⟩
      case rest=>
       obtain⟨rfl,HGX⟩:=hcut;have HGY:Hid (Gq w wc):=HG5.o.trans HGX.o;cases nb with
       |true=>
        have hn:0<i∧(Z14 (X.getD i Z1g) (X.getD (i - 1) Z1g)<0∨Z14 (Y.getD i Z1g) (Y.getD (i - 1) Z1g)<0):=of_decide_eq_true HNB.o;have HE:=Za (HBD.o hn.1 hn.2);clear hn;go_wp2_with fail;go_ret;exact⟨Z0a HE.o.symm,HGY.o⟩
       |false=>
        have hn:¬(0<i∧(Z14 (X.getD i Z1g) (X.getD (i - 1) Z1g)<0∨Z14 (Y.getD i Z1g) (Y.getD (i - 1) Z1g)<0)):=of_decide_eq_false HNB.o;have HE:=Za (HST.o (fun h0=>⟨fun h=>hn ⟨h0,.inl h⟩,fun h=>hn ⟨h0,.inr h⟩⟩));have HKX:=Za (HK5.o.same (Same.of_below (S:=fun _=>True) HGX.o) trivial);clear hn;go_wp2_with fail;go_roundw
        case rel=>exact⟨i+1,U.set k true,by omega,by go_num,HE,HKX,HGY⟩
        case measure=>simp[intOf];omega
end Go.Proofs.YtcemlhbfemenpaaGreatDoor
