/- Several texts laid into one: Generated (gen/ratf.py): the contract of num.Rat's Mul; Generated (gen/ratf.py): the contract of num.Rat's Add; Generated (gen/ratf.py): the contract of num.Rat's Sub; The contract of num.Frac, where what divides is above 0; Quotients in boxes: what a store into another box leaves; -/
import Derived.Test.YtcemlhbfemenpaaGreatDoorIntZ
set_option maxHeartbeats 16000000
set_option maxRecDepth 100000
namespace Go.Proofs.YtcemlhbfemenpaaGreatDoor
open Go.RowKit Go.Dw
attribute [local go_sem ↓] Go.wp_at_zero Go.wp_at_succ
theorem Z1y {w w':World}{v:Value}{n:Int}(h:Hid (Z1a w v n))(k:Hid (Below w.heap.size w w')):Z1a w' v n:=Z1a.below h.o k.o
theorem boxR (w:World)(sa sb:Bool)(A A' B B':Option Addr)(L L' M M' c c' d d':Nat):
  Box w (((w.alloc (.cells #[.bool sa,.slice A L c,.slice A' L' c'] 116)).alloc (.cells #[.bool sb,.slice B M d,.slice B' M' d'] 116)).alloc (.cells #[.bool false,.slice none 0 0,.slice none 0 0] 116)) (w.heap.size+1+1) 116 [.bool false,.slice none 0 0,.slice none 0 0]∧
  Blk (((w.alloc (.cells #[.bool sa,.slice A L c,.slice A' L' c'] 116)).alloc (.cells #[.bool sb,.slice B M d,.slice B' M' d'] 116)).alloc (.cells #[.bool false,.slice none 0 0,.slice none 0 0] 116)) w.heap.size 116 [.bool sa,.slice A L c,.slice A' L' c']∧
  Blk (((w.alloc (.cells #[.bool sa,.slice A L c,.slice A' L' c'] 116)).alloc (.cells #[.bool sb,.slice B M d,.slice B' M' d'] 116)).alloc (.cells #[.bool false,.slice none 0 0,.slice none 0 0] 116)) (w.heap.size+1) 116 [.bool sb,.slice B M d,.slice B' M' d']:=by
 obtain⟨wa,hwa⟩:∃wa,wa=w.alloc (.cells #[.bool sa,.slice A L c,.slice A' L' c'] 116):=⟨_,rfl⟩;obtain⟨wb,hwb⟩:∃wb,wb=wa.alloc (.cells #[.bool sb,.slice B M d,.slice B' M' d'] 116):=⟨_,rfl⟩;have z1:wa.heap.size=w.heap.size+1:=by rw[hwa];simp
 have z2:wb.heap.size=w.heap.size+1+1:=by rw[hwb];simp[z1]
 have b1:Below w.heap.size w wa:=by rw[hwa];exact(Zm _ _).alloc (Zh _) _
 have b2:Below w.heap.size w wb:=by rw[hwb];exact b1.alloc b1.size _
 have k1:Blk wa w.heap.size 116 [.bool sa,.slice A L c,.slice A' L' c']:=by rw[hwa];exact Blk.new w _ _
 have k2:Blk wb (w.heap.size+1) 116 [.bool sb,.slice B M d,.slice B' M' d']:=by rw[hwb,←z1];exact Blk.new wa _ _
 have k3:Blk wb w.heap.size 116 [.bool sa,.slice A L c,.slice A' L' c']:=by rw[hwb];exact k1.same (Same.alloc (S:=fun _=>True) _ _) trivial
 rw[←hwa,←hwb];refine⟨⟨b2.alloc b2.size _,by omega, ?_,fun c hc m=>by simp at hc;rcases hc with rfl|rfl<;>simp⟩,k3.same (Same.alloc (S:=fun _=>True) _ _) trivial,k2.same (Same.alloc (S:=fun _=>True) _ _) trivial⟩;have:=Blk.new wb 116 [.bool false,.slice none 0 0,.slice none 0 0];rw[z2]at this;exact this
theorem mulQ_any (va vb:Value)(p q:Rat)(w:World)(h:Z10 w va p)(g:Z10 w vb q)(k:Nat)(hk:Z0i k p)(gk:Z0i k q)(hk2:k+k≤549755813888):
  Calls Tryz.prog 76 #[va,vb] w (Z1r (p*q) w):=by
 obtain⟨R,hR⟩:∃R,p*q=R:=⟨_,rfl⟩;have HR:Hid (mkRat (p.num*q.num) (p.den*q.den)=R):=by show _=_;rw[←hR,←Rat.mkRat_mul_mkRat,Z1e,Z1e]
 rw[hR];clear hR;obtain⟨u,x,rfl,hu,hx,hpd⟩:=h;obtain⟨u',y,rfl,gu,gy,hqd⟩:=g;obtain⟨sa,hsa⟩:∃s,decide (p.num<0)=s:=⟨_,rfl⟩;obtain⟨sb,hsb⟩:∃s,decide (q.num<0)=s:=⟨_,rfl⟩;rw[hsa,hsb];have HSA:=Za hsa;have HSB:=Za hsb;clear hsa hsb;obtain⟨A,L,c,rfl⟩:=Z01 hu;obtain⟨A',L',c',rfl⟩:=Z01 hx;obtain⟨B,M,d,rfl⟩:=Z01 gu;obtain⟨B',M',d',rfl⟩:=Z01 gy;obtain⟨w1,hw1⟩:∃w1,w1=((w.alloc (.cells #[.bool sa,.slice A L c,.slice A' L' c'] 116)).alloc (.cells #[.bool sb,.slice B M d,.slice B' M' d'] 116)).alloc (.cells #[.bool false,.slice none 0 0,.slice none 0 0] 116):=⟨_,rfl⟩;obtain⟨hbx,hk0,hk1⟩:=boxR w sa sb A A' B B' L L' M M' c c' d d';rw[←hw1]at hbx hk0 hk1;have HB:Hid (Box w w1 (w.heap.size+1+1) 116 [.bool false,.slice none 0 0,.slice none 0 0]):=hbx;have hz2:w.heap.size+1+1≤w1.heap.size:=by have:=hbx.blk.lt;omega
 have HS:Hid (∀W,Gv (w.heap.size+1+1) w1 W→W.cell? ⟨w.heap.size,0,none⟩=some (.bool sa)∧W.cell? ⟨w.heap.size,1,none⟩=some (.slice A L c)∧W.cell? ⟨w.heap.size,2,none⟩=some (.slice A' L' c')∧W.cell? ⟨w.heap.size+1,0,none⟩=some (.bool sb)∧W.cell? ⟨w.heap.size+1,1,none⟩=some (.slice B M d)∧W.cell? ⟨w.heap.size+1,2,none⟩=some (.slice B' M' d')∧Gv (w.heap.size+1+1) w1 W):=fun W hW=>by have c0:=(Below.block hW _ (by omega)).trans hk0;have c1:=(Below.block hW _ (by omega)).trans hk1;have e0:Blk W w.heap.size 116 [.bool sa,.slice A L c,.slice A' L' c']:=c0;have e1:Blk W (w.heap.size+1) 116 [.bool sb,.slice B M d,.slice B' M' d']:=c1;exact⟨e0.cell 0,e0.cell 1,e0.cell 2,e1.cell 0,e1.cell 1,e1.cell 2,hW⟩
 have HCE:Hid (∀W,Gw w1 W→W.cell? ⟨w.heap.size+1+1,0,none⟩=some (.bool false)∧W.cell? ⟨w.heap.size+1+1,1,none⟩=some (.slice none 0 0)∧W.cell? ⟨w.heap.size+1+1,2,none⟩=some (.slice none 0 0)∧W.frozen? ⟨w.heap.size+1+1,0,none⟩=false∧W.frozen? ⟨w.heap.size+1+1,1,none⟩=false∧W.frozen? ⟨w.heap.size+1+1,2,none⟩=false):=fun W hW=>
  ⟨(HB.o.at_ hW 0).1,(HB.o.at_ hW 1).1,(HB.o.at_ hW 2).1,(HB.o.at_ hW 0).2,(HB.o.at_ hW 1).2,(HB.o.at_ hW 2).2⟩
 have HU:Hid (∀W,Gw w1 W→Z09 W (.slice A L c) p.num.natAbs∧Z09 W (.slice A' L' c') p.den∧Z09 W (.slice B M d) q.num.natAbs∧Z09 W (.slice B' M' d') q.den):=fun W hW=>
  ⟨(hu.below HB.o.bel).below hW,(hx.below HB.o.bel).below hW,(gu.below HB.o.bel).below hW,(gy.below HB.o.bel).below hW⟩
 have HI:Hid (∀W,Gw w1 W→Z1a W (.agg #[.bool sa,.slice A L c]) p.num∧Z1a W (.agg #[.bool sb,.slice B M d]) q.num):=fun W hW=>
  ⟨⟨_,by rw[HSA.o],(HU.o W hW).1⟩,⟨_,by rw[HSB.o],(HU.o W hW).2.2.1⟩⟩
 have HW1:=Za hw1;have hne:w.heap.size≠w.heap.size+1:=by omega
 have hne2:w.heap.size≠w.heap.size+1+1:=by omega
 have hne3:w.heap.size+1≠w.heap.size+1+1:=by omega
 have HK:=Za (And.intro hk gk);clear hw1 hu hx gu gy hk gk hbx hk0 hk1
 have HMI:Hid (∀W,Gw w1 W→Calls Tryz.prog 117 #[.agg #[.bool sa,.slice A L c],.agg #[.bool sb,.slice B M d]] W fun e W'=>∃s C N f,e= .returned (.agg #[.bool s,.slice C N f])∧Hid (Z1a W' (.agg #[.bool s,.slice C N f]) (p.num*q.num))∧Hid (Below W.heap.size W W')∧Gw w1 W'):=fun W hW=>
  (Z48 _ _ p.num q.num W (HI.o W hW).1 (HI.o W hW).2 k k HK.o.1.1 HK.o.2.1 hk2).mono fun e W' ⟨v,h1,h2,h3⟩=>by obtain⟨u,rfl,h4⟩:=h2;obtain⟨C,N,f,rfl⟩:=Z01 h4;exact⟨_,C,N,f,h1,⟨_,rfl,h4⟩,h3,hW.step h3⟩
 have HMN:Hid (∀W,Gw w1 W→Calls Tryz.prog 118 #[.slice A' L' c',.slice B' M' d'] W fun e W'=>∃D O g,e= .returned (.slice D O g)∧Hid (Z09 W' (.slice D O g) (p.den*q.den))∧Hid (Below W.heap.size W W')∧Gw w1 W'):=fun W hW=>
  (Z7a _ _ p.den q.den W (HU.o W hW).2.1 (HU.o W hW).2.2.2 k k HK.o.1.2 HK.o.2.2 hk2).mono fun e W' ⟨v,h1,h3,h4⟩=>by obtain⟨D,O,g,rfl⟩:=Z01 h3;exact⟨D,O,g,h1,h3,h4,hW.step h4⟩
 have HOV:Hid (∀W s C N f D O g,Gw w1 W→Z1a W (.agg #[.bool s,.slice C N f]) (p.num*q.num)→Z09 W (.slice D O g) (p.den*q.den)→Calls Tryz.prog 116 #[.agg #[.bool s,.slice C N f],.slice D O g] W fun e W'=>∃s2 A1 L1 c1 A2 L2 c2,e= .returned (.agg #[.bool s2,.slice A1 L1 c1,.slice A2 L2 c2])∧Hid (Zcj W' (.agg #[.bool s2,.slice A1 L1 c1,.slice A2 L2 c2]) R.num R.den)∧Gw w1 W'):=fun W s C N f D O g hW h1 h2=>
  (Z47 _ _ (p.num*q.num) (p.den*q.den) W h1 h2 (k+k) (Z1n HK.o.1.1 HK.o.2.1) (HK.o.1.2.mul HK.o.2.2) hk2 (Nat.mul_pos hpd hqd)).mono fun e W' ⟨v,h1,h2,h3⟩=>by rw[HR.o]at h2;obtain⟨u2,b2,h5,h6,h7,h8⟩:=h2;obtain⟨A1,L1,c1,rfl⟩:=Z01 h6;obtain⟨A2,L2,c2,rfl⟩:=Z01 h7;exact⟨_,A1,L1,c1,A2,L2,c2,by rw[h1,h5],⟨_,_,rfl,h6,h7,h8⟩,hW.step h3⟩
 have hqB:Gw w1 w1:=Gw.refl _;have hBD:Gw w1 w1.drew:=(Gw.refl _).drew;go_enter Tryz.func76,Tryz.ntmps76;go_upto_region 1 with(fail);rw[←HW1.o]
 go_region_held3 (fun W=>W.cell? ⟨w.heap.size,0,none⟩=some (.bool sa)∧W.cell? ⟨w.heap.size,1,none⟩=some (.slice A L c)∧W.cell? ⟨w.heap.size,2,none⟩=some (.slice A' L' c')∧W.cell? ⟨w.heap.size+1,0,none⟩=some (.bool sb)∧W.cell? ⟨w.heap.size+1,1,none⟩=some (.slice B M d)∧W.cell? ⟨w.heap.size+1,2,none⟩=some (.slice B' M' d')∧Gv (w.heap.size+1+1) w1 W)
  (first|exact HS.o _ (hBD.gv hz2)|exact HS.o _ (hqB.gv hz2)|exact HS.o _ ((((hqB.gv hz2).set ⟨w.heap.size+1+1,0,none⟩ (Zh _) _).set ⟨w.heap.size+1+1,1,none⟩ (Zh _) _).set ⟨w.heap.size+1+1,2,none⟩ (Zh _) _))
  (first|(go_at_call 117; (with_reducible refine(HMI.o _ (by first|exact hBD|assumption)).mono ?_);rintro e w' ⟨s,C,N,f,rfl,hi,hbw,hqB⟩;obtain⟨q0,q1,q2,q3,q4,q5⟩:=HCE.o _ hqB)|(go_at_call 118; (with_reducible refine(HMN.o _ (by first|exact hBD|assumption)).mono ?_);rintro e w' ⟨D,O,g,rfl,hn,hbw,hqB⟩;obtain⟨q0,q1,q2,q3,q4,q5⟩:=HCE.o _ hqB)|(go_at_call 116; (with_reducible refine(HOV.o _ _ _ _ _ _ _ _ (by assumption) (by first|exact Hid.o (by assumption)|exact Z1y (by assumption) (by assumption)) (by first|exact Hid.o (by assumption)|exact later (by assumption) (by assumption))).mono ?_);rintro e w' ⟨s2,A1,L1,c1,A2,L2,c2,rfl,hRaw,hqB⟩;obtain⟨q0,q1,q2,q3,q4,q5⟩:=HCE.o _ hqB))
 all_goals
  obtain⟨k1,⟨k2,k3,k4⟩,k5⟩:=HB.o.store3 (W:=w') hqB HB.o.bel.size (.bool s2) (.slice A1 L1 c1) (.slice A2 L2 c2);obtain⟨uu,bb,hE,hE1,hE2,hE3⟩:=Hid.o hRaw;obtain⟨rfl,rfl,rfl⟩:Value.slice A1 L1 c1=uu∧Value.slice A2 L2 c2=bb∧s2=decide (R.num<0):=by injection hE with hE;simp only[Array.mk.injEq,List.cons.injEq,and_true]at hE;obtain⟨e1,e2,e3⟩:=hE;injection e1 with e1;exact⟨e2,e3,e1⟩
  have HE1:=Za hE1;have HE2:=Za hE2;have HK1:=Za k1;have HK5:=Za k5;clear hE hE1 hE2 k1 k5 hRaw;go_wp2_with fail;refine bodyPost_ret (v:= .agg #[.bool (decide (R.num<0)),.slice A1 L1 c1,.slice A2 L2 c2]) (by simp[results,Tryz.results76,go_sem,k2,k3,k4]) rfl ⟨_,rfl,⟨.slice A1 L1 c1,.slice A2 L2 c2,rfl,HK5.o _ _ HE1.o,HK5.o _ _ HE2.o,hE3⟩,HK1.o⟩
theorem add_same {p q:Rat}(h:p.den=q.den):mkRat (p.num+q.num) p.den=p+q:=by
 have h1:mkRat p.num p.den+mkRat q.num q.den=mkRat (p.num*q.den+q.num*p.den) (p.den*q.den):=Rat.mkRat_add_mkRat _ _ p.den_nz q.den_nz;rw[Z1e,Z1e]at h1;rw[h1,←h,Rat.mkRat_eq_iff p.den_nz (Nat.mul_ne_zero p.den_nz p.den_nz),←Int.add_mul];rw[Int.natCast_mul,Int.mul_assoc]
theorem add_diff (p q:Rat):mkRat (p.num*q.den+q.num*p.den) (p.den*q.den)=p+q:=by
 have h1:mkRat p.num p.den+mkRat q.num q.den=mkRat (p.num*q.den+q.num*p.den) (p.den*q.den):=Rat.mkRat_add_mkRat _ _ p.den_nz q.den_nz;rw[←h1,Z1e,Z1e]
theorem Zag (va vb:Value)(p q:Rat)(w:World)(h:Z10 w va p)(g:Z10 w vb q)(k:Nat)(hk:Z0i k p)(gk:Z0i k q)(hk2:k+k+1≤549755813888):
  Calls Tryz.prog 113 #[va,vb] w (Z1r (p+q) w):=by
 obtain⟨R,hR⟩:∃R,p+q=R:=⟨_,rfl⟩;have HRS:=Za (fun h=>add_same (p:=p) (q:=q) h);have HRD:=Za (add_diff p q);rw[hR]at HRS HRD⊢;clear hR;have hk3:=hk2;replace hk2:k+k≤549755813888:=by omega
 obtain⟨u,x,rfl,hu,hx,hpd⟩:=h;obtain⟨u',y,rfl,gu,gy,hqd⟩:=g;obtain⟨sa,hsa⟩:∃s,decide (p.num<0)=s:=⟨_,rfl⟩;obtain⟨sb,hsb⟩:∃s,decide (q.num<0)=s:=⟨_,rfl⟩;rw[hsa,hsb];have HSA:=Za hsa;have HSB:=Za hsb;clear hsa hsb;obtain⟨A,L,c,rfl⟩:=Z01 hu;obtain⟨A',L',c',rfl⟩:=Z01 hx;obtain⟨B,M,d,rfl⟩:=Z01 gu;obtain⟨B',M',d',rfl⟩:=Z01 gy;obtain⟨w1,hw1⟩:∃w1,w1=((w.alloc (.cells #[.bool sa,.slice A L c,.slice A' L' c'] 116)).alloc (.cells #[.bool sb,.slice B M d,.slice B' M' d'] 116)).alloc (.cells #[.bool false,.slice none 0 0,.slice none 0 0] 116):=⟨_,rfl⟩;obtain⟨hbx,hk0,hk1⟩:=boxR w sa sb A A' B B' L L' M M' c c' d d';rw[←hw1]at hbx hk0 hk1;have HB:Hid (Box w w1 (w.heap.size+1+1) 116 [.bool false,.slice none 0 0,.slice none 0 0]):=hbx;have hz2:w.heap.size+1+1≤w1.heap.size:=by have:=hbx.blk.lt;omega
 have HS:Hid (∀W,Gv (w.heap.size+1+1) w1 W→W.cell? ⟨w.heap.size,0,none⟩=some (.bool sa)∧W.cell? ⟨w.heap.size,1,none⟩=some (.slice A L c)∧W.cell? ⟨w.heap.size,2,none⟩=some (.slice A' L' c')∧W.cell? ⟨w.heap.size+1,0,none⟩=some (.bool sb)∧W.cell? ⟨w.heap.size+1,1,none⟩=some (.slice B M d)∧W.cell? ⟨w.heap.size+1,2,none⟩=some (.slice B' M' d')∧Gv (w.heap.size+1+1) w1 W):=fun W hW=>by have c0:=(Below.block hW _ (by omega)).trans hk0;have c1:=(Below.block hW _ (by omega)).trans hk1;have e0:Blk W w.heap.size 116 [.bool sa,.slice A L c,.slice A' L' c']:=c0;have e1:Blk W (w.heap.size+1) 116 [.bool sb,.slice B M d,.slice B' M' d']:=c1;exact⟨e0.cell 0,e0.cell 1,e0.cell 2,e1.cell 0,e1.cell 1,e1.cell 2,hW⟩
 have HCE:Hid (∀W,Gw w1 W→W.cell? ⟨w.heap.size+1+1,0,none⟩=some (.bool false)∧W.cell? ⟨w.heap.size+1+1,1,none⟩=some (.slice none 0 0)∧W.cell? ⟨w.heap.size+1+1,2,none⟩=some (.slice none 0 0)∧W.frozen? ⟨w.heap.size+1+1,0,none⟩=false∧W.frozen? ⟨w.heap.size+1+1,1,none⟩=false∧W.frozen? ⟨w.heap.size+1+1,2,none⟩=false):=fun W hW=>
  ⟨(HB.o.at_ hW 0).1,(HB.o.at_ hW 1).1,(HB.o.at_ hW 2).1,(HB.o.at_ hW 0).2,(HB.o.at_ hW 1).2,(HB.o.at_ hW 2).2⟩
 have HU:Hid (∀W,Gw w1 W→Z09 W (.slice A L c) p.num.natAbs∧Z09 W (.slice A' L' c') p.den∧Z09 W (.slice B M d) q.num.natAbs∧Z09 W (.slice B' M' d') q.den):=fun W hW=>
  ⟨(hu.below HB.o.bel).below hW,(hx.below HB.o.bel).below hW,(gu.below HB.o.bel).below hW,(gy.below HB.o.bel).below hW⟩
 have HI:Hid (∀W,Gw w1 W→Z1a W (.agg #[.bool sa,.slice A L c]) p.num∧Z1a W (.agg #[.bool sb,.slice B M d]) q.num):=fun W hW=>
  ⟨⟨_,by rw[HSA.o],(HU.o W hW).1⟩,⟨_,by rw[HSB.o],(HU.o W hW).2.2.1⟩⟩
 have HW1:=Za hw1;have hne:w.heap.size≠w.heap.size+1:=by omega
 have hne2:w.heap.size≠w.heap.size+1+1:=by omega
 have hne3:w.heap.size+1≠w.heap.size+1+1:=by omega
 have HK:=Za (And.intro hk gk);clear hw1 hu hx gu gy hk gk hbx hk0 hk1
 have HD:Hid (∀W,Gw w1 W→Z1a W (.agg #[.bool false,.slice A' L' c']) (p.den:Int)∧Z1a W (.agg #[.bool false,.slice B' M' d']) (q.den:Int)):=fun W hW=>
  ⟨⟨_,by rw[decide_eq_false (by omega)],by simpa using(HU.o W hW).2.1⟩,⟨_,by rw[decide_eq_false (by omega)],by simpa using(HU.o W hW).2.2.2⟩⟩
 have HCM:Hid (∀W,Gw w1 W→Calls Tryz.prog 126 #[.slice A' L' c',.slice B' M' d'] W fun e W'=>e= .returned (.int .i64 (Z27 p.den q.den))∧Gw w1 W'):=fun W hW=>
  (Z21 _ _ p.den q.den W (HU.o W hW).2.1 (HU.o W hW).2.2.2 k HK.o.1.2 HK.o.2.2 (by omega)).mono fun e W' ⟨h1,h2⟩=>⟨h1,hW.step h2.below⟩
 have hqB0:Gw w1 w1:=Gw.refl _;obtain⟨a0,a1,a2,b0,b1,b2, -⟩:=HS.o w1 (hqB0.gv hz2);by_cases hd:p.den=q.den
 ·
  have HR:=Za (HRS.o hd);have hcm:((Z27 p.den q.den:Int)==0)=true:=by rw[hd,Z2v];rfl
  have HAI:Hid (∀W,Gw w1 W→Calls Tryz.prog 146 #[.agg #[.bool sa,.slice A L c],.agg #[.bool sb,.slice B M d]] W fun e W'=>∃s C N f,e= .returned (.agg #[.bool s,.slice C N f])∧Hid (Z1a W' (.agg #[.bool s,.slice C N f]) (p.num+q.num))∧Hid (Below W.heap.size W W')∧Gw w1 W'):=fun W hW=>
   (Zaf _ _ p.num q.num W (HI.o W hW).1 (HI.o W hW).2 k HK.o.1.1 HK.o.2.1 (by omega)).mono fun e W' ⟨v,h1,h2,h3⟩=>by obtain⟨u,rfl,h4⟩:=h2;obtain⟨C,N,f,rfl⟩:=Z01 h4;exact⟨_,C,N,f,h1,⟨_,rfl,h4⟩,h3,hW.step h3⟩
  have HOV:Hid (∀W s C N f D O g,Gw w1 W→Z1a W (.agg #[.bool s,.slice C N f]) (p.num+q.num)→Z09 W (.slice D O g) (p.den)→Calls Tryz.prog 116 #[.agg #[.bool s,.slice C N f],.slice D O g] W fun e W'=>∃s2 A1 L1 c1 A2 L2 c2,e= .returned (.agg #[.bool s2,.slice A1 L1 c1,.slice A2 L2 c2])∧Hid (Zcj W' (.agg #[.bool s2,.slice A1 L1 c1,.slice A2 L2 c2]) R.num R.den)∧Gw w1 W'):=fun W s C N f D O g hW h1 h2=>
   (Z47 _ _ (p.num+q.num) (p.den) W h1 h2 (max k k+1) (Z72 HK.o.1.1 HK.o.2.1) (HK.o.1.2.mono (by omega)) (by omega) hpd).mono fun e W' ⟨v,h1,h2,h3⟩=>by rw[HR.o]at h2;obtain⟨u2,b2,h5,h6,h7,h8⟩:=h2;obtain⟨A1,L1,c1,rfl⟩:=Z01 h6;obtain⟨A2,L2,c2,rfl⟩:=Z01 h7;exact⟨_,A1,L1,c1,A2,L2,c2,by rw[h1,h5],⟨_,_,rfl,h6,h7,h8⟩,hW.step h3⟩
  clear hd;generalize Z27 p.den q.den=cr at*;go_enter Tryz.func113,Tryz.ntmps113;go_upto_region 1 with(fail);rw[←HW1.o];go_wp2_with fail;refine(HCM.o w1 hqB0).mono ?_;rintro e w2 ⟨rfl,hqC⟩;go_upto_region 2 with(fail);have hBD:Gw w1 w2.drew:=hqC.drew;have hqB:Gw w1 w2:=hqC;clear a0 a1 a2 b0 b1 b2
  go_region_held3 (fun W=>W.cell? ⟨w.heap.size,0,none⟩=some (.bool sa)∧W.cell? ⟨w.heap.size,1,none⟩=some (.slice A L c)∧W.cell? ⟨w.heap.size,2,none⟩=some (.slice A' L' c')∧W.cell? ⟨w.heap.size+1,0,none⟩=some (.bool sb)∧W.cell? ⟨w.heap.size+1,1,none⟩=some (.slice B M d)∧W.cell? ⟨w.heap.size+1,2,none⟩=some (.slice B' M' d')∧Gv (w.heap.size+1+1) w1 W)
   (first|exact HS.o _ (hBD.gv hz2)|exact HS.o _ (hqB.gv hz2)|exact HS.o _ ((((hqB.gv hz2).set ⟨w.heap.size+1+1,0,none⟩ (Zh _) _).set ⟨w.heap.size+1+1,1,none⟩ (Zh _) _).set ⟨w.heap.size+1+1,2,none⟩ (Zh _) _))
   (first|(go_at_call 146; (with_reducible refine(HAI.o _ (by first|exact hBD|assumption)).mono ?_);rintro e w' ⟨s,C,N,f,rfl,hi,hbw,hqB⟩;obtain⟨q0,q1,q2,q3,q4,q5⟩:=HCE.o _ hqB)|(go_at_call 116; (with_reducible refine(HOV.o _ _ _ _ _ _ _ _ (by assumption) (by first|exact Hid.o (by assumption)|exact Z1y (by assumption) (by assumption)|exact Z1y (Za (Z1y (by assumption) (by assumption))) (by assumption)) (HU.o _ (by assumption)).2.1).mono ?_);rintro e w' ⟨s2,A1,L1,c1,A2,L2,c2,rfl,hRaw,hqB⟩;obtain⟨q0,q1,q2,q3,q4,q5⟩:=HCE.o _ hqB))
  all_goals
   obtain⟨k1,⟨k2,k3,k4⟩,k5⟩:=HB.o.store3 (W:=w') hqB HB.o.bel.size (.bool s2) (.slice A1 L1 c1) (.slice A2 L2 c2);obtain⟨uu,bb,hE,hE1,hE2,hE3⟩:=Hid.o hRaw;obtain⟨rfl,rfl,rfl⟩:Value.slice A1 L1 c1=uu∧Value.slice A2 L2 c2=bb∧s2=decide (R.num<0):=(by injection hE with hE;simp only[Array.mk.injEq,List.cons.injEq,and_true]at hE;obtain⟨e1,e2,e3⟩:=hE;injection e1 with e1;exact⟨e2,e3,e1⟩);have HE1:=Za hE1;have HE2:=Za hE2;have HK1:=Za k1;have HK5:=Za k5;clear hE hE1 hE2 k1 k5 hRaw;go_wp2_with fail;refine bodyPost_ret (v:= .agg #[.bool (decide (R.num<0)),.slice A1 L1 c1,.slice A2 L2 c2]) (by simp[results,Tryz.results113,go_sem,k2,k3,k4]) rfl ⟨_,rfl,⟨.slice A1 L1 c1,.slice A2 L2 c2,rfl,HK5.o _ _ HE1.o,HK5.o _ _ HE2.o,hE3⟩,HK1.o⟩
 ·
  have HR:=Za HRD.o
  have hcm:((Z27 p.den q.den:Int)==0)=false:=by
   rcases Nat.lt_or_gt_of_ne hd with h4|h4
   · rw[Z1u h4];rfl
   · rw[Z28 h4];rfl
  have HM1:Hid (∀W,Gw w1 W→Calls Tryz.prog 117 #[.agg #[.bool sa,.slice A L c],.agg #[.bool false,.slice B' M' d']] W fun e W'=>∃s C N f,e= .returned (.agg #[.bool s,.slice C N f])∧Hid (Z1a W' (.agg #[.bool s,.slice C N f]) (p.num*q.den))∧Hid (Below W.heap.size W W')∧Gw w1 W'):=fun W hW=>
   (Z48 _ _ p.num q.den W (HI.o W hW).1 (HD.o W hW).2 k k HK.o.1.1 HK.o.2.2 hk2).mono fun e W' ⟨v,h1,h2,h3⟩=>by obtain⟨u,rfl,h4⟩:=h2;obtain⟨C,N,f,rfl⟩:=Z01 h4;exact⟨_,C,N,f,h1,⟨_,rfl,h4⟩,h3,hW.step h3⟩
  have HM2:Hid (∀W,Gw w1 W→Calls Tryz.prog 117 #[.agg #[.bool sb,.slice B M d],.agg #[.bool false,.slice A' L' c']] W fun e W'=>∃s C N f,e= .returned (.agg #[.bool s,.slice C N f])∧Hid (Z1a W' (.agg #[.bool s,.slice C N f]) (q.num*p.den))∧Hid (Below W.heap.size W W')∧Gw w1 W'):=fun W hW=>
   (Z48 _ _ q.num p.den W (HI.o W hW).2 (HD.o W hW).1 k k HK.o.2.1 HK.o.1.2 hk2).mono fun e W' ⟨v,h1,h2,h3⟩=>by obtain⟨u,rfl,h4⟩:=h2;obtain⟨C,N,f,rfl⟩:=Z01 h4;exact⟨_,C,N,f,h1,⟨_,rfl,h4⟩,h3,hW.step h3⟩
  have HAI:Hid (∀W s C N f s' C' N' f',Gw w1 W→Z1a W (.agg #[.bool s,.slice C N f]) (p.num*q.den)→Z1a W (.agg #[.bool s',.slice C' N' f']) (q.num*p.den)→Calls Tryz.prog 146 #[.agg #[.bool s,.slice C N f],.agg #[.bool s',.slice C' N' f']] W fun e W'=>∃s2 C2 N2 f2,e= .returned (.agg #[.bool s2,.slice C2 N2 f2])∧Hid (Z1a W' (.agg #[.bool s2,.slice C2 N2 f2]) (p.num*q.den+q.num*p.den))∧Hid (Below W.heap.size W W')∧Gw w1 W'):=fun W s C N f s' C' N' f' hW h1 h2=>
   (Zaf _ _ (p.num*q.den) (q.num*p.den) W h1 h2 (k+k) (Z1n HK.o.1.1 HK.o.2.2) (Z1n HK.o.2.1 HK.o.1.2) hk2).mono fun e W' ⟨v,h1,h2,h3⟩=>by obtain⟨u,rfl,h4⟩:=h2;obtain⟨C2,N2,f2,rfl⟩:=Z01 h4;exact⟨_,C2,N2,f2,h1,⟨_,rfl,h4⟩,h3,hW.step h3⟩
  have HMN:Hid (∀W,Gw w1 W→Calls Tryz.prog 118 #[.slice A' L' c',.slice B' M' d'] W fun e W'=>∃D O g,e= .returned (.slice D O g)∧Hid (Z09 W' (.slice D O g) (p.den*q.den))∧Hid (Below W.heap.size W W')∧Gw w1 W'):=fun W hW=>
   (Z7a _ _ p.den q.den W (HU.o W hW).2.1 (HU.o W hW).2.2.2 k k HK.o.1.2 HK.o.2.2 hk2).mono fun e W' ⟨v,h1,h3,h4⟩=>by obtain⟨D,O,g,rfl⟩:=Z01 h3;exact⟨D,O,g,h1,h3,h4,hW.step h4⟩
  have HOV:Hid (∀W s C N f D O g,Gw w1 W→Z1a W (.agg #[.bool s,.slice C N f]) (p.num*q.den+q.num*p.den)→Z09 W (.slice D O g) (p.den*q.den)→Calls Tryz.prog 116 #[.agg #[.bool s,.slice C N f],.slice D O g] W fun e W'=>∃s2 A1 L1 c1 A2 L2 c2,e= .returned (.agg #[.bool s2,.slice A1 L1 c1,.slice A2 L2 c2])∧Hid (Zcj W' (.agg #[.bool s2,.slice A1 L1 c1,.slice A2 L2 c2]) R.num R.den)∧Gw w1 W'):=fun W s C N f D O g hW h1 h2=>
   (Z47 _ _ (p.num*q.den+q.num*p.den) (p.den*q.den) W h1 h2 (k+k+1) (by have:=Z72 (Z1n HK.o.1.1 (show Lim k (q.den:Int).natAbs from HK.o.2.2)) (Z1n HK.o.2.1 (show Lim k (p.den:Int).natAbs from HK.o.1.2));exact this.mono (by omega)) ((HK.o.1.2.mul HK.o.2.2).mono (by omega)) (by omega) (Nat.mul_pos hpd hqd)).mono fun e W' ⟨v,h1,h2,h3⟩=>by rw[HR.o]at h2;obtain⟨u2,b2,h5,h6,h7,h8⟩:=h2;obtain⟨A1,L1,c1,rfl⟩:=Z01 h6;obtain⟨A2,L2,c2,rfl⟩:=Z01 h7;exact⟨_,A1,L1,c1,A2,L2,c2,by rw[h1,h5],⟨_,_,rfl,h6,h7,h8⟩,hW.step h3⟩
  clear hd;generalize Z27 p.den q.den=cr at*;go_enter Tryz.func113,Tryz.ntmps113;go_upto_region 1 with(fail);rw[←HW1.o];go_wp2_with fail;refine(HCM.o w1 hqB0).mono ?_;rintro e w2 ⟨rfl,hqC⟩;go_upto_region 3 with(fail);have hBD:Gw w1 w2.drew:=hqC.drew;have hqB:Gw w1 w2:=hqC;clear a0 a1 a2 b0 b1 b2
  go_region_held3 (fun W=>W.cell? ⟨w.heap.size,0,none⟩=some (.bool sa)∧W.cell? ⟨w.heap.size,1,none⟩=some (.slice A L c)∧W.cell? ⟨w.heap.size,2,none⟩=some (.slice A' L' c')∧W.cell? ⟨w.heap.size+1,0,none⟩=some (.bool sb)∧W.cell? ⟨w.heap.size+1,1,none⟩=some (.slice B M d)∧W.cell? ⟨w.heap.size+1,2,none⟩=some (.slice B' M' d')∧Gv (w.heap.size+1+1) w1 W)
   (first|exact HS.o _ (hBD.gv hz2)|exact HS.o _ (hqB.gv hz2)|exact HS.o _ ((((hqB.gv hz2).set ⟨w.heap.size+1+1,0,none⟩ (Zh _) _).set ⟨w.heap.size+1+1,1,none⟩ (Zh _) _).set ⟨w.heap.size+1+1,2,none⟩ (Zh _) _))
   (first|(go_at_call 117; (with_reducible refine(HM1.o _ (by first|exact hBD|assumption)).mono ?_);rintro e w' ⟨s,C,N,f,rfl,hi,hbw,hqB⟩;obtain⟨q0,q1,q2,q3,q4,q5⟩:=HCE.o _ hqB)|(go_at_call 117; (with_reducible refine(HM2.o _ (by first|exact hBD|assumption)).mono ?_);rintro e w' ⟨s',C',N',f',rfl,hi',hbw',hqB⟩;obtain⟨q0,q1,q2,q3,q4,q5⟩:=HCE.o _ hqB)|(go_at_call 146; (with_reducible refine(HAI.o _ _ _ _ _ _ _ _ _ (by first|exact hBD|assumption) (by first|exact Hid.o (by assumption)|exact Z1y (by assumption) (by assumption)|exact Z1y (Za (Z1y (by assumption) (by assumption))) (by assumption)) (by first|exact Hid.o (by assumption)|exact Z1y (by assumption) (by assumption)|exact Z1y (Za (Z1y (by assumption) (by assumption))) (by assumption))).mono ?_);rintro e w' ⟨sx,Cx,Nx,fx,rfl,hix,hbwx,hqB⟩;obtain⟨q0,q1,q2,q3,q4,q5⟩:=HCE.o _ hqB)|(go_at_call 118; (with_reducible refine(HMN.o _ (by first|exact hBD|assumption)).mono ?_);rintro e w' ⟨D,O,g,rfl,hn,hbwn,hqB⟩;obtain⟨q0,q1,q2,q3,q4,q5⟩:=HCE.o _ hqB)|(go_at_call 116; (with_reducible refine(HOV.o _ _ _ _ _ _ _ _ (by assumption) (by first|exact Hid.o (by assumption)|exact Z1y (by assumption) (by assumption)|exact Z1y (Za (Z1y (by assumption) (by assumption))) (by assumption)) (by first|exact Hid.o (by assumption)|exact later (by assumption) (by assumption))).mono ?_);rintro e w' ⟨s2,A1,L1,c1,A2,L2,c2,rfl,hRaw,hqB⟩;obtain⟨q0,q1,q2,q3,q4,q5⟩:=HCE.o _ hqB))
  all_goals
   obtain⟨k1,⟨k2,k3,k4⟩,k5⟩:=HB.o.store3 (W:=w') hqB HB.o.bel.size (.bool s2) (.slice A1 L1 c1) (.slice A2 L2 c2);obtain⟨uu,bb,hE,hE1,hE2,hE3⟩:=Hid.o hRaw;obtain⟨rfl,rfl,rfl⟩:Value.slice A1 L1 c1=uu∧Value.slice A2 L2 c2=bb∧s2=decide (R.num<0):=(by injection hE with hE;simp only[Array.mk.injEq,List.cons.injEq,and_true]at hE;obtain⟨e1,e2,e3⟩:=hE;injection e1 with e1;exact⟨e2,e3,e1⟩);have HE1:=Za hE1;have HE2:=Za hE2;have HK1:=Za k1;have HK5:=Za k5;clear hE hE1 hE2 k1 k5 hRaw;go_wp2_with fail;refine bodyPost_ret (v:= .agg #[.bool (decide (R.num<0)),.slice A1 L1 c1,.slice A2 L2 c2]) (by simp[results,Tryz.results113,go_sem,k2,k3,k4]) rfl ⟨_,rfl,⟨.slice A1 L1 c1,.slice A2 L2 c2,rfl,HK5.o _ _ HE1.o,HK5.o _ _ HE2.o,hE3⟩,HK1.o⟩
theorem Z7b (va vb:Value)(p q:Rat)(w:World)(h:Z10 w va p)(g:Z10 w vb q)(k:Nat)(hk:Z0i k p)(gk:Z0i k q)(hk2:k+k+1≤549755813888):
  Calls Tryz.prog 114 #[va,vb] w (Z1r (p - q) w):=by
 obtain⟨R,hR⟩:∃R,p - q=R:=⟨_,rfl⟩;have HR:Hid (p+ -q=R):=by show _=_;rw[←hR,Rat.sub_eq_add_neg]
 rw[hR];clear hR;obtain⟨u,x,rfl,hu,hx,hpd⟩:=h;obtain⟨u',y,rfl,gu,gy,hqd⟩:=g;obtain⟨sa,hsa⟩:∃s,decide (p.num<0)=s:=⟨_,rfl⟩;obtain⟨sb,hsb⟩:∃s,decide (q.num<0)=s:=⟨_,rfl⟩;rw[hsa,hsb];have HSA:=Za hsa;have HSB:=Za hsb;clear hsa hsb;obtain⟨A,L,c,rfl⟩:=Z01 hu;obtain⟨A',L',c',rfl⟩:=Z01 hx;obtain⟨B,M,d,rfl⟩:=Z01 gu;obtain⟨B',M',d',rfl⟩:=Z01 gy;obtain⟨w1,hw1⟩:∃w1,w1=((w.alloc (.cells #[.bool sa,.slice A L c,.slice A' L' c'] 116)).alloc (.cells #[.bool sb,.slice B M d,.slice B' M' d'] 116)).alloc (.cells #[.bool false,.slice none 0 0,.slice none 0 0] 116):=⟨_,rfl⟩;obtain⟨hbx,hk0,hk1⟩:=boxR w sa sb A A' B B' L L' M M' c c' d d';rw[←hw1]at hbx hk0 hk1;have HB:Hid (Box w w1 (w.heap.size+1+1) 116 [.bool false,.slice none 0 0,.slice none 0 0]):=hbx;have hz2:w.heap.size+1+1≤w1.heap.size:=by have:=hbx.blk.lt;omega
 have HS:Hid (∀W,Gv (w.heap.size+1+1) w1 W→W.cell? ⟨w.heap.size,0,none⟩=some (.bool sa)∧W.cell? ⟨w.heap.size,1,none⟩=some (.slice A L c)∧W.cell? ⟨w.heap.size,2,none⟩=some (.slice A' L' c')∧W.cell? ⟨w.heap.size+1,0,none⟩=some (.bool sb)∧W.cell? ⟨w.heap.size+1,1,none⟩=some (.slice B M d)∧W.cell? ⟨w.heap.size+1,2,none⟩=some (.slice B' M' d')∧Gv (w.heap.size+1+1) w1 W):=fun W hW=>by have c0:=(Below.block hW _ (by omega)).trans hk0;have c1:=(Below.block hW _ (by omega)).trans hk1;have e0:Blk W w.heap.size 116 [.bool sa,.slice A L c,.slice A' L' c']:=c0;have e1:Blk W (w.heap.size+1) 116 [.bool sb,.slice B M d,.slice B' M' d']:=c1;exact⟨e0.cell 0,e0.cell 1,e0.cell 2,e1.cell 0,e1.cell 1,e1.cell 2,hW⟩
 have HCE:Hid (∀W,Gw w1 W→W.cell? ⟨w.heap.size+1+1,0,none⟩=some (.bool false)∧W.cell? ⟨w.heap.size+1+1,1,none⟩=some (.slice none 0 0)∧W.cell? ⟨w.heap.size+1+1,2,none⟩=some (.slice none 0 0)∧W.frozen? ⟨w.heap.size+1+1,0,none⟩=false∧W.frozen? ⟨w.heap.size+1+1,1,none⟩=false∧W.frozen? ⟨w.heap.size+1+1,2,none⟩=false):=fun W hW=>
  ⟨(HB.o.at_ hW 0).1,(HB.o.at_ hW 1).1,(HB.o.at_ hW 2).1,(HB.o.at_ hW 0).2,(HB.o.at_ hW 1).2,(HB.o.at_ hW 2).2⟩
 have HU:Hid (∀W,Gw w1 W→Z09 W (.slice A L c) p.num.natAbs∧Z09 W (.slice A' L' c') p.den∧Z09 W (.slice B M d) q.num.natAbs∧Z09 W (.slice B' M' d') q.den):=fun W hW=>
  ⟨(hu.below HB.o.bel).below hW,(hx.below HB.o.bel).below hW,(gu.below HB.o.bel).below hW,(gy.below HB.o.bel).below hW⟩
 have HI:Hid (∀W,Gw w1 W→Z1a W (.agg #[.bool sa,.slice A L c]) p.num∧Z1a W (.agg #[.bool sb,.slice B M d]) q.num):=fun W hW=>
  ⟨⟨_,by rw[HSA.o],(HU.o W hW).1⟩,⟨_,by rw[HSB.o],(HU.o W hW).2.2.1⟩⟩
 have HW1:=Za hw1;have hne:w.heap.size≠w.heap.size+1:=by omega
 have hne2:w.heap.size≠w.heap.size+1+1:=by omega
 have hne3:w.heap.size+1≠w.heap.size+1+1:=by omega
 have HK:=Za (And.intro hk gk);clear hw1 hu hx gu gy hk gk hbx hk0 hk1
 have HMI:Hid (∀W,Gw w1 W→Calls Tryz.prog 147 #[.agg #[.bool sb,.slice B M d]] W fun e W'=>∃s C N f,e= .returned (.agg #[.bool s,.slice C N f])∧Hid (Z1a W' (.agg #[.bool s,.slice C N f]) (-q.num))∧Hid (Below W.heap.size W W')∧Gw w1 W'):=fun W hW=>
  (Zbq _ q.num W (HI.o W hW).2).mono fun e W' ⟨v,h1,h2,h3⟩=>by obtain⟨u,rfl,h4⟩:=h2;obtain⟨C,N,f,rfl⟩:=Z01 h4;exact⟨_,C,N,f,h1,⟨_,rfl,h4⟩,h3,hW.step h3⟩
 have HAD:Hid (∀W s C N f,Gw w1 W→Z1a W (.agg #[.bool s,.slice C N f]) (-q.num)→Calls Tryz.prog 113 #[.agg #[.bool sa,.slice A L c,.slice A' L' c'],.agg #[.bool s,.slice C N f,.slice B' M' d']] W fun e W'=>∃s2 A1 L1 c1 A2 L2 c2,e= .returned (.agg #[.bool s2,.slice A1 L1 c1,.slice A2 L2 c2])∧Hid (Zcj W' (.agg #[.bool s2,.slice A1 L1 c1,.slice A2 L2 c2]) R.num R.den)∧Gw w1 W'):=fun W s C N f hW h1=>by
  have hp1:Z10 W (.agg #[.bool sa,.slice A L c,.slice A' L' c']) p:=⟨_,_,by rw[HSA.o],(HU.o W hW).1,(HU.o W hW).2.1,hpd⟩
  have hq1:Z10 W (.agg #[.bool s,.slice C N f,.slice B' M' d']) (-q):=by
   obtain⟨u,e1,e2⟩:=h1;injection e1 with e1;simp only[Array.mk.injEq,List.cons.injEq,and_true]at e1;obtain⟨e3,e4⟩:=e1;injection e3 with e3;refine⟨.slice C N f,.slice B' M' d',by rw[Rat.neg_num,e3], ?_, ?_, ?_⟩
   · rw[Rat.neg_num,e4];exact e2
   · rw[Rat.neg_den];exact(HU.o W hW).2.2.2
   · rw[Rat.neg_den];exact hqd
  have:=Zag _ _ p (-q) W hp1 hq1 k HK.o.1 HK.o.2.neg hk2;rw[HR.o]at this;refine this.mono fun e W' ⟨v,h1,h2,h3⟩=> ?_;obtain⟨u2,b2,h5,h6,h7,h8⟩:=h2;obtain⟨A1,L1,c1,rfl⟩:=Z01 h6;obtain⟨A2,L2,c2,rfl⟩:=Z01 h7;exact⟨_,A1,L1,c1,A2,L2,c2,by rw[h1,h5],⟨_,_,rfl,h6,h7,h8⟩,hW.step h3⟩
 have hqB:Gw w1 w1:=Gw.refl _;have hBD:Gw w1 w1.drew:=(Gw.refl _).drew;go_enter Tryz.func114,Tryz.ntmps114;go_upto_region 1 with(fail);rw[←HW1.o]
 go_region_held3 (fun W=>W.cell? ⟨w.heap.size,0,none⟩=some (.bool sa)∧W.cell? ⟨w.heap.size,1,none⟩=some (.slice A L c)∧W.cell? ⟨w.heap.size,2,none⟩=some (.slice A' L' c')∧W.cell? ⟨w.heap.size+1,0,none⟩=some (.bool sb)∧W.cell? ⟨w.heap.size+1,1,none⟩=some (.slice B M d)∧W.cell? ⟨w.heap.size+1,2,none⟩=some (.slice B' M' d')∧Gv (w.heap.size+1+1) w1 W)
  (first|exact HS.o _ (hBD.gv hz2)|exact HS.o _ (hqB.gv hz2)|exact HS.o _ ((((hqB.gv hz2).set ⟨w.heap.size+1+1,0,none⟩ (Zh _) _).set ⟨w.heap.size+1+1,1,none⟩ (Zh _) _).set ⟨w.heap.size+1+1,2,none⟩ (Zh _) _))
  (first|(go_at_call 147; (with_reducible refine(HMI.o _ (by first|exact hBD|assumption)).mono ?_);rintro e w' ⟨s,C,N,f,rfl,hi,hbw,hqB⟩;obtain⟨q0,q1,q2,q3,q4,q5⟩:=HCE.o _ hqB)|(go_at_call 113; (with_reducible refine(HAD.o _ _ _ _ _ (by assumption) (by first|exact Hid.o (by assumption)|exact Z1y (by assumption) (by assumption)|exact Z1y (Za (Z1y (by assumption) (by assumption))) (by assumption))).mono ?_);rintro e w' ⟨s2,A1,L1,c1,A2,L2,c2,rfl,hRaw,hqB⟩;obtain⟨q0,q1,q2,q3,q4,q5⟩:=HCE.o _ hqB))
 all_goals
  obtain⟨k1,⟨k2,k3,k4⟩,k5⟩:=HB.o.store3 (W:=w') hqB HB.o.bel.size (.bool s2) (.slice A1 L1 c1) (.slice A2 L2 c2);obtain⟨uu,bb,hE,hE1,hE2,hE3⟩:=Hid.o hRaw;obtain⟨rfl,rfl,rfl⟩:Value.slice A1 L1 c1=uu∧Value.slice A2 L2 c2=bb∧s2=decide (R.num<0):=by injection hE with hE;simp only[Array.mk.injEq,List.cons.injEq,and_true]at hE;obtain⟨e1,e2,e3⟩:=hE;injection e1 with e1;exact⟨e2,e3,e1⟩
  have HE1:=Za hE1;have HE2:=Za hE2;have HK1:=Za k1;have HK5:=Za k5;clear hE hE1 hE2 k1 k5 hRaw;go_wp2_with fail;refine bodyPost_ret (v:= .agg #[.bool (decide (R.num<0)),.slice A1 L1 c1,.slice A2 L2 c2]) (by simp[results,Tryz.results114,go_sem,k2,k3,k4]) rfl ⟨_,rfl,⟨.slice A1 L1 c1,.slice A2 L2 c2,rfl,HK5.o _ _ HE1.o,HK5.o _ _ HE2.o,hE3⟩,HK1.o⟩
theorem Zdr {n:Int}(h:Z0l n):Lim 2 n.natAbs:=by
 unfold Lim;have:W32 ^ 2=18446744073709551616:=by decide
 rw[this];obtain⟨h1,h2⟩:=h;omega
theorem Zds (a b:Int)(w:World)(ha:Z0l a)(hb:Z0l b)(hb0:0<b):
  Calls Tryz.prog 115 #[.int .i64 a,.int .i64 b] w (Z1r (mkRat a b.toNat) w):=by
 obtain⟨w1,hw1⟩:∃w1,w1=w.alloc (.cells #[.bool false,.slice none 0 0,.slice none 0 0] 116):=⟨_,rfl⟩;have HB:Hid (Box w w1 w.heap.size 116 [.bool false,.slice none 0 0,.slice none 0 0]):=by rw[hw1];exact⟨(Zm _ _).alloc (Zh _) _,Zh _,Blk.new w _ _,fun c hc m=>by simp at hc;rcases hc with rfl|rfl<;>simp⟩
 have HW1:=Za hw1;have HOA:=Za (Zdq a w1 ha);have HOB:Hid (∀W,Calls Tryz.prog 148 #[.int .i64 b] W (Z6i b W)):=fun W=>Zdq b W hb;have HLA:=Za (Zdr ha);have HLB:=Za (Zdr hb);have HBA:Hid (b.natAbs=b.toNat):=by show _=_;omega
 have HBN:Hid (decide (b<0)=false):=decide_eq_false (by omega);have HBP:Hid (0<b.toNat):=by show _<_;omega
 clear hw1 ha hb hb0;go_enter Tryz.func115,Tryz.ntmps115;go_upto_region 1 with(fail);rw[←HW1.o];go_wp2_with fail;refine HOA.o.mono ?_;rintro e w2 ⟨v,rfl,⟨u,rfl,hu⟩,hb2⟩;obtain⟨A,L,c,rfl⟩:=Z01 hu;go_wp2_with fail;refine(HOB.o w2).mono ?_;rintro e w3 ⟨v,rfl,⟨u',rfl,gu⟩,hb3⟩;obtain⟨B,M,d,rfl⟩:=Z01 gu;rw[HBN.o];rw[HBA.o]at gu;obtain⟨sa,hsa⟩:∃s,decide (a<0)=s:=⟨_,rfl⟩;rw[hsa];obtain⟨wa,hwa⟩:∃wa,wa=w3.alloc (.cells #[.bool sa,.slice A L c] 114):=⟨_,rfl⟩;obtain⟨w4,hw4⟩:∃w4,w4=wa.alloc (.cells #[.bool false,.slice B M d] 114):=⟨_,rfl⟩;have z1:wa.heap.size=w3.heap.size+1:=by rw[hwa];simp
 have HG4:Hid (Below w3.heap.size w3 w4):=by rw[hw4,hwa];exact((Zm _ _).alloc (Zh _) _).alloc (by simp) _
 have HKA:Hid (Blk w4 w3.heap.size 114 [.bool sa,.slice A L c]):=by rw[hw4];refine Blk.same (w:=wa) ?_ (Same.alloc (S:=fun _=>True) _ _) trivial;rw[hwa];exact Blk.new w3 _ _
 have HKB:Hid (Blk w4 (w3.heap.size+1) 114 [.bool false,.slice B M d]):=by rw[hw4,←z1];exact Blk.new wa _ _
 rw[hwa]at hw4;have HW4:=Za hw4;have HB4:Hid (Below w1.heap.size w1 w4):=(hb2.trans (hb3.mono hb2.size)).trans (Below.mono HG4.o (by have:=hb2.size;have:=hb3.size;omega));have HOV:=Za (Z47 (.agg #[.bool sa,.slice A L c]) (.slice B M d) a b.toNat w4 ⟨.slice A L c,by rw[hsa],((hu.below hb3).below HG4.o)⟩ (gu.below HG4.o) 2 HLA.o (by have:=HLB.o;rw[HBA.o]at this;exact this) (by omega) HBP.o);clear hw4 hwa z1 hu gu hb2 hb3 hsa;go_upto_region 2 with(fail);rw[←HW4.o];have a0:w4.cell? ⟨w3.heap.size,0,none⟩=some _:=HKA.o.cell 0;have a1:w4.cell? ⟨w3.heap.size,1,none⟩=some _:=HKA.o.cell 1;have b0:w4.cell? ⟨w3.heap.size+1,0,none⟩=some _:=HKB.o.cell 0;have b1:w4.cell? ⟨w3.heap.size+1,1,none⟩=some _:=HKB.o.cell 1;go_wp2_with fail;refine HOV.o.mono ?_;rintro e w5 ⟨v,rfl,⟨x,y,rfl,hx,hy,hd⟩,hb5⟩;obtain⟨A1,L1,c1,rfl⟩:=Z01 hx;obtain⟨A2,L2,c2,rfl⟩:=Z01 hy;have HX:=Za hx;have HY:=Za hy;have hb6:Below w1.heap.size w1 w5:=HB4.o.trans (hb5.mono HB4.o.size);have d0:w5.cell? ⟨w.heap.size,0,none⟩=some (.bool false):=(HB.o.at_ hb6 0).1;have d1:w5.cell? ⟨w.heap.size,1,none⟩=some (.slice none 0 0):=(HB.o.at_ hb6 1).1;have d2:w5.cell? ⟨w.heap.size,2,none⟩=some (.slice none 0 0):=(HB.o.at_ hb6 2).1;have f0:=(HB.o.at_ hb6 0).2;have f1:=(HB.o.at_ hb6 1).2;have f2:=(HB.o.at_ hb6 2).2;obtain⟨s2,hs2⟩:∃s,decide ((mkRat a b.toNat).num<0)=s:=⟨_,rfl⟩;rw[hs2];have HS2:=Za hs2;obtain⟨k1,⟨k2,k3,k4⟩,k5⟩:=HB.o.store3 (W:=w5) hb6 HB.o.bel.size (.bool s2) (.slice A1 L1 c1) (.slice A2 L2 c2);have HK1:=Za k1;have HK5:=Za k5;have HD:=Za hd;clear hx hy hb5 hb6 hs2 k1 k5 a0 a1 b0 b1 hd;go_wp2_with fail;refine bodyPost_ret (v:= .agg #[.bool s2,.slice A1 L1 c1,.slice A2 L2 c2]) (by simp[results,Tryz.results115,go_sem,k2,k3,k4]) rfl ⟨_,rfl,⟨.slice A1 L1 c1,.slice A2 L2 c2,by rw[HS2.o],HK5.o _ _ HX.o,HK5.o _ _ HY.o,HD.o⟩,HK1.o⟩
end Go.Proofs.YtcemlhbfemenpaaGreatDoor
namespace Go.Proofs.YtcemlhbfemenpaaGreatDoor
open Go.RowKit Go.Dw
def NoW (c:Value):Prop:=∀m,c≠ .int .u32 m
theorem Z49 (b:Bool):NoW (.bool b):=fun _ h=>by cases h
theorem Z16 (A:Option Addr)(n c:Nat):NoW (.slice A n c):=fun _ h=>by cases h
def QB (w:World)(g:Nat):Prop:=∃x y z,Blk w g 116 [x,y,z]∧NoW x∧NoW y∧NoW z
structure Otw (g:Nat)(w w':World):Prop where
 size:w.heap.size≤w'.heap.size
 heap:∀b,b≠g→w'.heap[b]? =w.heap[b]?
theorem Otw.set {g:Nat}{w w':World}(h:Otw g w w')(k:Nat)(u:Value):Otw g w (w'.setCell ⟨g,k,none⟩ u):=
 ⟨by simpa [World.setCell]using h.size,fun b hb=>(Below.heap_setCell w' ⟨g,k,none⟩ u b hb).trans (h.heap b hb)⟩
theorem Otw.refl (g:Nat)(w:World):Otw g w w:=⟨Zh _,fun _ _=>rfl⟩
theorem otw3 (w:World)(g:Nat)(x y z:Value):Otw g w (((w.setCell ⟨g,0,none⟩ x).setCell ⟨g,1,none⟩ y).setCell ⟨g,2,none⟩ z):=(((Otw.refl g w).set 0 x).set 1 y).set 2 z
theorem QB.nat {w w':World}{g:Nat}(h:QB w g)(ho:Otw g w w'){v:Value}{n:Nat}(hv:Z09 w v n):Z09 w' v n:=by
 obtain⟨x,y,z,hb,hx,hy,hz⟩:=h;exact Z09.other hb (fun c hc m=>by simp at hc;rcases hc with rfl|rfl|rfl;exact hx m;exact hy m;exact hz m) ho.size ho.heap hv
theorem QB.rat {w w':World}{g:Nat}(h:QB w g)(ho:Otw g w w'){v:Value}{q:Rat}(hv:Z10 w v q):Z10 w' v q:=by
 obtain⟨u,b,e,h1,h2,h3⟩:=hv;exact⟨u,b,e,h.nat ho h1,h.nat ho h2,h3⟩
theorem QB.int {w w':World}{g:Nat}(h:QB w g)(ho:Otw g w w'){v:Value}{z:Int}(hv:Z1a w v z):Z1a w' v z:=by
 obtain⟨u,e,h1⟩:=hv;exact⟨u,e,h.nat ho h1⟩
theorem Otw.blk {w w':World}{g g':Nat}{t:TypeId}{cs:List Value}(ho:Otw g w w')(h:Blk w g' t cs)(hne:g'≠g):Blk w' g' t cs:=(ho.heap _ hne).trans h
theorem Z0u {w w':World}{g:Nat}{t:TypeId}{cs:List Value}(h:Blk w g t cs)(hb:Gq w w'):Blk w' g t cs:=h.same (Same.of_below (S:=fun _=>True) hb) trivial
theorem QB.gq {w w':World}{g:Nat}(h:QB w g)(hb:Gq w w'):QB w' g:=by
 obtain⟨x,y,z,h1,h2⟩:=h;exact⟨x,y,z,Z0u h1 hb,h2⟩
theorem QB.other {w w':World}{g g':Nat}(h:QB w g')(ho:Otw g w w')(hne:g'≠g):QB w' g':=by
 obtain⟨x,y,z,h1,h2⟩:=h;exact⟨x,y,z,ho.blk h1 hne,h2⟩
theorem QB.lt {w:World}{g:Nat}(h:QB w g):g<w.heap.size:=by
 obtain⟨x,y,z,h1,_⟩:=h;exact h1.lt
theorem QB.cells {w:World}{g:Nat}(h:QB w g):∃x y z,w.cell? ⟨g,0,none⟩=some x∧w.cell? ⟨g,1,none⟩=some y∧w.cell? ⟨g,2,none⟩=some z∧w.frozen? ⟨g,0,none⟩=false∧w.frozen? ⟨g,1,none⟩=false∧w.frozen? ⟨g,2,none⟩=false:=by
 obtain⟨x,y,z,h1,_⟩:=h;exact⟨x,y,z,h1.cell 0,h1.cell 1,h1.cell 2,h1.frozen 0,h1.frozen 1,h1.frozen 2⟩
theorem QB.new (w:World):QB (w.alloc (.cells #[.bool false,.slice none 0 0,.slice none 0 0] 116)) w.heap.size:=
 ⟨_,_,_,Blk.new w 116 [.bool false,.slice none 0 0,.slice none 0 0],Z49 _,Z16 _ _ _,Z16 _ _ _⟩
theorem QB.store {w:World}{g:Nat}(h:QB w g){x y z:Value}:Blk (((w.setCell ⟨g,0,none⟩ x).setCell ⟨g,1,none⟩ y).setCell ⟨g,2,none⟩ z) g 116 [x,y,z]:=by
 obtain⟨a,b,c,h1,_⟩:=h;exact((h1.set_ 0 x).set_ 1 y).set_ 2 z
theorem QB.stored {w:World}{g:Nat}(h:QB w g){x y z:Value}(hx:NoW x)(hy:NoW y)(hz:NoW z):QB (((w.setCell ⟨g,0,none⟩ x).setCell ⟨g,1,none⟩ y).setCell ⟨g,2,none⟩ z) g:=
 ⟨x,y,z,h.store,hx,hy,hz⟩
def Z35 (w:World)(g:Nat)(q:Rat):Prop:=∃s A1 L1 c1 A2 L2 c2,Blk w g 116 [.bool s,.slice A1 L1 c1,.slice A2 L2 c2]∧Z10 w (.agg #[.bool s,.slice A1 L1 c1,.slice A2 L2 c2]) q
theorem Z10.gq {w w':World}{v:Value}{q:Rat}(h:Z10 w v q)(hb:Gq w w'):Z10 w' v q:=by
 obtain⟨u,b,e,h1,h2,h3⟩:=h;exact⟨u,b,e,h1.below hb,h2.below hb,h3⟩
theorem Z35.gq {w w':World}{g:Nat}{q:Rat}(h:Z35 w g q)(hb:Gq w w'):Z35 w' g q:=by
 obtain⟨s,A1,L1,c1,A2,L2,c2,h1,h2⟩:=h;exact⟨s,A1,L1,c1,A2,L2,c2,Z0u h1 hb,h2.gq hb⟩
theorem Z35.other {w w':World}{g g':Nat}{q:Rat}(h:Z35 w g' q)(hb:QB w g)(ho:Otw g w w')(hne:g'≠g):Z35 w' g' q:=by
 obtain⟨s,A1,L1,c1,A2,L2,c2,h1,h2⟩:=h;exact⟨s,A1,L1,c1,A2,L2,c2,ho.blk h1 hne,hb.rat ho h2⟩
theorem Z7c {wc w:World}{g:Nat}(h:Gq wc w)(hg:wc.heap.size≤g)(x y z:Value):Gq wc (((w.setCell ⟨g,0,none⟩ x).setCell ⟨g,1,none⟩ y).setCell ⟨g,2,none⟩ z):=
 ((h.set (p:=⟨g,0,none⟩) hg x).set (p:=⟨g,1,none⟩) hg y).set (p:=⟨g,2,none⟩) hg z
end Go.Proofs.YtcemlhbfemenpaaGreatDoor
