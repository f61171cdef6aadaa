/- Several texts laid into one: The contracts of num.Int's Minus and Mul; Generated (gen/intb.py): the contracts of num.Int's Add and Sub; The contract of num.Of; -/
import Derived.Test.YtcemlhbfemenpaaGreatDoorRatZ
import Derived.Test.YtcemlhbfemenpaaGreatDoorNatZ
set_option maxHeartbeats 8000000
set_option maxRecDepth 100000
namespace Go.Proofs.YtcemlhbfemenpaaGreatDoor
open Go.RowKit Go.Dw
attribute [local go_sem ↓] Go.wp_at_zero Go.wp_at_succ
theorem boxI (w w0:World)(h:Below w.heap.size w w0)(c0 c1:Value)(n0:∀m,c0≠ .int .u32 m)(n1:∀m,c1≠ .int .u32 m):Box w (w0.alloc (.cells #[c0,c1] 114)) w0.heap.size 114 [c0,c1]:=
 ⟨h.alloc h.size _,h.size,Blk.new w0 _ _,fun c hc m=>by simp at hc;rcases hc with rfl|rfl;exact n0 m;exact n1 m⟩
theorem Zdn (a b:Int):decide (a*b<0)=((decide (a<0) !=decide (b<0)) && decide (0<a.natAbs*b.natAbs)):=by
 rcases Int.lt_trichotomy a 0 with ha|ha|ha
 ·
  rcases Int.lt_trichotomy b 0 with hb|hb|hb
  · have:=Int.mul_pos_of_neg_of_neg ha hb;simp[ha,hb];omega
  · subst hb;simp
  · have:=Int.mul_neg_of_neg_of_pos ha hb;have h2:¬b<0:=(by omega);have h3:0<a.natAbs*b.natAbs:=Nat.mul_pos (by omega) (by omega);simp[ha,h2,h3,this]
 · subst ha;simp
 ·
  have h1:¬a<0:=by omega
  rcases Int.lt_trichotomy b 0 with hb|hb|hb
  · have:=Int.mul_neg_of_pos_of_neg ha hb;have h3:0<a.natAbs*b.natAbs:=Nat.mul_pos (by omega) (by omega);simp[h1,hb,h3,this]
  · subst hb;simp
  · have:=Int.mul_pos ha hb;have h2:¬b<0:=(by omega);simp[h1,h2];omega
theorem Zbq (v:Value)(a:Int)(w:World)(h:Z1a w v a):
  Calls Tryz.prog 147 #[v] w (Z6i (-a) w):=by
 obtain⟨u,rfl,hu⟩:=h;obtain⟨A,c,L,rfl,hL,_,_⟩:=Z0k hu;obtain⟨sa,hsa⟩:∃s,decide (a<0)=s:=⟨_,rfl⟩
 have HQ:Hid (decide (-a<0)=(!sa && decide (0<L))):=by
  show _=_;rw[←hsa,Bool.eq_iff_iff];simp only[decide_eq_true_eq,Bool.and_eq_true,Bool.not_eq_true',decide_eq_false_iff_not];constructor
  ·
   intro h;refine⟨by omega, ?_⟩;rcases Nat.eq_zero_or_pos L with e|e
   · have:=hL.1 e;omega
   · exact e
  · rintro⟨h1,h2⟩;have:a.natAbs≠0:=fun e=>(by have:=hL.2 e;omega);omega
 rw[hsa];clear hsa;obtain⟨w1,hw1⟩:∃w1,w1=(w.alloc (.cells #[.bool sa,.slice A L c] 114)).alloc (.cells #[.bool false,.slice none 0 0] 114):=⟨_,rfl⟩;have hsz:(w.alloc (.cells #[.bool sa,.slice A L c] 114)).heap.size=w.heap.size+1:=by simp
 have HB:Hid (Box w w1 (w.heap.size+1) 114 [.bool false,.slice none 0 0]):=by rw[hw1];have:=boxI w (w.alloc (.cells #[.bool sa,.slice A L c] 114)) ((Zm _ _).alloc (Zh _) _) (.bool false) (.slice none 0 0) (by simp) (by simp);rw[hsz]at this;exact this
 have HA:Hid (Blk w1 w.heap.size 114 [.bool sa,.slice A L c]):=by rw[hw1];exact(Below.heap_alloc _ _ _ (by simp)).trans (Blk.new w _ [.bool sa,.slice A L c])
 have HV:=Za (hu.below HB.o.bel);have a0:w1.cell? ⟨w.heap.size,0,none⟩=some (.bool sa):=HA.o.cell 0;have a1:w1.cell? ⟨w.heap.size,1,none⟩=some (.slice A L c):=HA.o.cell 1;have d0:w1.cell? ⟨w.heap.size+1,0,none⟩=some (.bool false):=(HB.o.at_ (Zm _ _) 0).1;have d1:w1.cell? ⟨w.heap.size+1,1,none⟩=some (.slice none 0 0):=(HB.o.at_ (Zm _ _) 1).1;have f0:=(HB.o.at_ (Zm _ _) 0).2;have f1:=(HB.o.at_ (Zm _ _) 1).2;have HW1:=Za hw1;have hne:w.heap.size≠w.heap.size+1:=by omega
 clear hw1 hu hL hsz;go_enter Tryz.func147,Tryz.ntmps147;go_upto_region 1 with(fail);rw[←HW1.o];cases sa with
 |true=>
  obtain⟨k1,⟨k2,k3⟩,k4⟩:=HB.o.store2 (Zm _ _) HB.o.bel.size (.bool false) (.slice A L c);go_wp2_with fail;refine bodyPost_ret (v:= .agg #[.bool false,.slice A L c]) (by simp[results,Tryz.results147,go_sem,k2,k3]) rfl ⟨_,rfl,⟨.slice A L c,by rw[HQ.o];rfl,by rw[Int.natAbs_neg];exact k4 _ _ HV.o⟩,k1⟩
 |false=>
  obtain⟨k1,⟨k2,k3⟩,k4⟩:=HB.o.store2 (Zm _ _) HB.o.bel.size (.bool (decide (0<L))) (.slice A L c);go_wp2_with fail;refine bodyPost_ret (v:= .agg #[.bool (decide (0<L)),.slice A L c]) (by simp[results,Tryz.results147,go_sem,k2,k3]) rfl ⟨_,rfl,⟨.slice A L c,by rw[HQ.o];rfl,by rw[Int.natAbs_neg];exact k4 _ _ HV.o⟩,k1⟩
theorem Z48 (va vb:Value)(a b:Int)(w:World)(h:Z1a w va a)(g:Z1a w vb b)(k k':Nat)(hk:Lim k a.natAbs)(gk:Lim k' b.natAbs)(hk2:k+k'≤549755813888):
  Calls Tryz.prog 117 #[va,vb] w (Z6i (a*b) w):=by
 obtain⟨u,rfl,hu⟩:=h;obtain⟨u',rfl,gu⟩:=g;have HQ:=Za (Zdn a b);obtain⟨sa,hsa⟩:∃s,decide (a<0)=s:=⟨_,rfl⟩;obtain⟨sb,hsb⟩:∃s,decide (b<0)=s:=⟨_,rfl⟩;rw[hsa,hsb]at HQ;rw[hsa,hsb];clear hsa hsb;obtain⟨A,L,c,rfl⟩:=Z01 hu;obtain⟨B,M,d,rfl⟩:=Z01 gu;obtain⟨w1,hw1⟩:∃w1,w1=((w.alloc (.cells #[.bool sa,.slice A L c] 114)).alloc (.cells #[.bool sb,.slice B M d] 114)).alloc (.cells #[.bool false,.slice none 0 0] 114):=⟨_,rfl⟩;have hsz:(w.alloc (.cells #[.bool sa,.slice A L c] 114)).heap.size=w.heap.size+1:=by simp
 have hsz2:((w.alloc (.cells #[.bool sa,.slice A L c] 114)).alloc (.cells #[.bool sb,.slice B M d] 114)).heap.size=w.heap.size+1+1:=by simp
 have HB:Hid (Box w w1 (w.heap.size+1+1) 114 [.bool false,.slice none 0 0]):=by rw[hw1];have:=boxI w ((w.alloc (.cells #[.bool sa,.slice A L c] 114)).alloc (.cells #[.bool sb,.slice B M d] 114)) (((Zm _ _).alloc (Zh _) _).alloc (by simp) _) (.bool false) (.slice none 0 0) (by simp) (by simp);rw[hsz2]at this;exact this
 have HA:Hid (Blk w1 w.heap.size 114 [.bool sa,.slice A L c]∧Blk w1 (w.heap.size+1) 114 [.bool sb,.slice B M d]):=by rw[hw1];have k1:=Blk.new w 114 [.bool sa,.slice A L c];have k2:=Blk.new (w.alloc (.cells #[.bool sa,.slice A L c] 114)) 114 [.bool sb,.slice B M d];rw[hsz]at k2;exact⟨(k1.same (Same.alloc (S:=fun _=>True) _ _) trivial).same (Same.alloc (S:=fun _=>True) _ _) trivial,k2.same (Same.alloc (S:=fun _=>True) _ _) trivial⟩
 have HMU:=Za (Z7a _ _ a.natAbs b.natAbs w1 (hu.below HB.o.bel) (gu.below HB.o.bel) k k' hk gk hk2);have a1:w1.cell? ⟨w.heap.size,1,none⟩=some (.slice A L c):=HA.o.1.cell 1;have b1:w1.cell? ⟨w.heap.size+1,1,none⟩=some (.slice B M d):=HA.o.2.cell 1;have HW1:=Za hw1;have hne:w.heap.size≠w.heap.size+1:=by omega
 have hne2:w.heap.size≠w.heap.size+1+1:=by omega
 have hne3:w.heap.size+1≠w.heap.size+1+1:=by omega
 clear hw1 hu gu hsz hsz2 hk gk;go_enter Tryz.func117,Tryz.ntmps117;go_upto_region 1 with(fail);rw[←HW1.o];go_wp2_with fail;refine HMU.o.mono ?_;rintro e w2 ⟨v,rfl,hv,hb2⟩;obtain⟨C,f,N,rfl,hN,_,_⟩:=Z0k hv;have HV:=Za hv;have HB2:=Za hb2;have a0:w2.cell? ⟨w.heap.size,0,none⟩=some (.bool sa):=(HA.o.1.same (Same.of_below (S:=fun _=>True) hb2) trivial).cell 0;have b0:w2.cell? ⟨w.heap.size+1,0,none⟩=some (.bool sb):=(HA.o.2.same (Same.of_below (S:=fun _=>True) hb2) trivial).cell 0;have d0:w2.cell? ⟨w.heap.size+1+1,0,none⟩=some (.bool false):=(HB.o.at_ hb2 0).1;have d1:w2.cell? ⟨w.heap.size+1+1,1,none⟩=some (.slice none 0 0):=(HB.o.at_ hb2 1).1;have f0:=(HB.o.at_ hb2 0).2;have f1:=(HB.o.at_ hb2 1).2
 have HQ2:Hid (decide (a*b<0)=((sa !=sb) && decide (0<N))):=by
  show _=_;rw[HQ.o];congr 1;rw[decide_eq_decide];constructor
  ·
   intro h;rcases Nat.eq_zero_or_pos N with e|e
   · have:=hN.1 e;omega
   · exact e
  ·
   intro h;rcases Nat.eq_zero_or_pos (a.natAbs*b.natAbs)with e|e
   · have:=hN.2 e;omega
   · exact e
 have HMA:Hid ((a*b).natAbs=a.natAbs*b.natAbs):=Int.natAbs_mul a b;clear hv hb2 hN a1 b1;cases sa<;>cases sb
 · obtain⟨k1,⟨k2,k3⟩,k4⟩:=HB.o.store2 HB2.o HB.o.bel.size (.bool false) (.slice C N f);go_wp2_with fail;refine bodyPost_ret (v:= .agg #[.bool false,.slice C N f]) (by simp[results,Tryz.results117,go_sem,k2,k3]) rfl ⟨_,rfl,⟨.slice C N f,by rw[HQ2.o];rfl,by rw[HMA.o];exact k4 _ _ HV.o⟩,k1⟩
 · obtain⟨k1,⟨k2,k3⟩,k4⟩:=HB.o.store2 HB2.o HB.o.bel.size (.bool (decide (0<N))) (.slice C N f);go_wp2_with fail;refine bodyPost_ret (v:= .agg #[.bool (decide (0<N)),.slice C N f]) (by simp[results,Tryz.results117,go_sem,k2,k3]) rfl ⟨_,rfl,⟨.slice C N f,by rw[HQ2.o];rfl,by rw[HMA.o];exact k4 _ _ HV.o⟩,k1⟩
 · obtain⟨k1,⟨k2,k3⟩,k4⟩:=HB.o.store2 HB2.o HB.o.bel.size (.bool (decide (0<N))) (.slice C N f);go_wp2_with fail;refine bodyPost_ret (v:= .agg #[.bool (decide (0<N)),.slice C N f]) (by simp[results,Tryz.results117,go_sem,k2,k3]) rfl ⟨_,rfl,⟨.slice C N f,by rw[HQ2.o];rfl,by rw[HMA.o];exact k4 _ _ HV.o⟩,k1⟩
 · obtain⟨k1,⟨k2,k3⟩,k4⟩:=HB.o.store2 HB2.o HB.o.bel.size (.bool false) (.slice C N f);go_wp2_with fail;refine bodyPost_ret (v:= .agg #[.bool false,.slice C N f]) (by simp[results,Tryz.results117,go_sem,k2,k3]) rfl ⟨_,rfl,⟨.slice C N f,by rw[HQ2.o];rfl,by rw[HMA.o];exact k4 _ _ HV.o⟩,k1⟩
theorem Zaf (va vb:Value)(a b:Int)(w:World)(h:Z1a w va a)(g:Z1a w vb b)(k:Nat)(hk:Lim k a.natAbs)(gk:Lim k b.natAbs)(hk2:k≤549755813888):
  Calls Tryz.prog 146 #[va,vb] w (Z6i (a+b) w):=by
 obtain⟨u,rfl,hu⟩:=h;obtain⟨u',rfl,gu⟩:=g;obtain⟨sa,hsa⟩:∃s,decide (a<0)=s:=⟨_,rfl⟩;obtain⟨sb,hsb⟩:∃s,decide (b<0)=s:=⟨_,rfl⟩;rw[hsa,hsb];obtain⟨A,L,c,rfl⟩:=Z01 hu;obtain⟨B,M,d,rfl⟩:=Z01 gu;obtain⟨w1,hw1⟩:∃w1,w1=((w.alloc (.cells #[.bool sa,.slice A L c] 114)).alloc (.cells #[.bool sb,.slice B M d] 114)).alloc (.cells #[.bool false,.slice none 0 0] 114):=⟨_,rfl⟩;have hsz:(w.alloc (.cells #[.bool sa,.slice A L c] 114)).heap.size=w.heap.size+1:=by simp
 have hsz2:((w.alloc (.cells #[.bool sa,.slice A L c] 114)).alloc (.cells #[.bool sb,.slice B M d] 114)).heap.size=w.heap.size+1+1:=by simp
 have hsz3:w1.heap.size=w.heap.size+3:=by rw[hw1];simp
 have HB:Hid (Box w w1 (w.heap.size+1+1) 114 [.bool false,.slice none 0 0]):=by rw[hw1];have:=boxI w ((w.alloc (.cells #[.bool sa,.slice A L c] 114)).alloc (.cells #[.bool sb,.slice B M d] 114)) (((Zm _ _).alloc (Zh _) _).alloc (by simp) _) (.bool false) (.slice none 0 0) (by simp) (by simp);rw[hsz2]at this;exact this
 have HA:Hid (Blk w1 w.heap.size 114 [.bool sa,.slice A L c]∧Blk w1 (w.heap.size+1) 114 [.bool sb,.slice B M d]):=by rw[hw1];have k1:=Blk.new w 114 [.bool sa,.slice A L c];have k2:=Blk.new (w.alloc (.cells #[.bool sa,.slice A L c] 114)) 114 [.bool sb,.slice B M d];rw[hsz]at k2;exact⟨(k1.same (Same.alloc (S:=fun _=>True) _ _) trivial).same (Same.alloc (S:=fun _=>True) _ _) trivial,k2.same (Same.alloc (S:=fun _=>True) _ _) trivial⟩
 have HS:Hid (∀W,Gv (w.heap.size+1+1) w1 W→W.cell? ⟨w.heap.size,0,none⟩=some (.bool sa)∧W.cell? ⟨w.heap.size,1,none⟩=some (.slice A L c)∧W.cell? ⟨w.heap.size+1,0,none⟩=some (.bool sb)∧W.cell? ⟨w.heap.size+1,1,none⟩=some (.slice B M d)∧Gv (w.heap.size+1+1) w1 W):=fun W hW=>by have c0:Blk W w.heap.size 114 [.bool sa,.slice A L c]:=(Below.block hW _ (by omega)).trans HA.o.1;have c1:Blk W (w.heap.size+1) 114 [.bool sb,.slice B M d]:=(Below.block hW _ (by omega)).trans HA.o.2;exact⟨c0.cell 0,c0.cell 1,c1.cell 0,c1.cell 1,hW⟩
 have HCE:Hid (∀W,Gw w1 W→W.cell? ⟨w.heap.size+1+1,0,none⟩=some (.bool false)∧W.cell? ⟨w.heap.size+1+1,1,none⟩=some (.slice none 0 0)∧W.frozen? ⟨w.heap.size+1+1,0,none⟩=false∧W.frozen? ⟨w.heap.size+1+1,1,none⟩=false):=fun W hW=>
  ⟨(HB.o.at_ hW 0).1,(HB.o.at_ hW 1).1,(HB.o.at_ hW 0).2,(HB.o.at_ hW 1).2⟩
 have HU:Hid (∀W,Gw w1 W→Z09 W (.slice A L c) a.natAbs∧Z09 W (.slice B M d) b.natAbs):=fun W hW=>⟨(hu.below HB.o.bel).below hW,(gu.below HB.o.bel).below hW⟩;have hz2:w.heap.size+1+1≤w1.heap.size:=by omega
 have HW1:=Za hw1;have hne:w.heap.size≠w.heap.size+1:=by omega
 have hne2:w.heap.size≠w.heap.size+1+1:=by omega
 have hne3:w.heap.size+1≠w.heap.size+1+1:=by omega
 have HK:=Za (And.intro hk gk);have hqB0:Gw w1 w1:=Gw.refl _;obtain⟨a0,a1,b0,b1, -⟩:=HS.o w1 (hqB0.gv hz2);clear hw1 hu gu hsz hsz2 hsz3 hk gk;by_cases hs:sa=sb
 ·
  have HN:Hid ((a+b).natAbs=a.natAbs+b.natAbs):=by show _=_;rw[←hsa,←hsb,decide_eq_decide]at hs;omega
  have HQ:Hid (decide (a+b<0)=sa):=by show _=_;rw[←hsa,decide_eq_decide];rw[←hsa,←hsb,decide_eq_decide]at hs;omega
  have hss:(sa==sb)=true:=by simp[hs]
  have HCL:Hid (∀W,Gw w1 W→Calls Tryz.prog 174 #[.slice A L c,.slice B M d] W fun e W'=>∃C N f,e= .returned (.slice C N f)∧Hid (Z09 W' (.slice C N f) (a.natAbs+b.natAbs))∧Gw w1 W'):=fun W hW=>
   (addN_any _ _ a.natAbs b.natAbs W (HU.o W hW).1 (HU.o W hW).2 k HK.o.1 HK.o.2 hk2).mono fun e W' ⟨v,h1,h3,h4⟩=>by obtain⟨C,N,f,rfl⟩:=Z01 h3;exact⟨C,N,f,h1,h3,Gw.step hW h4⟩
  clear hs hsa hsb;go_enter Tryz.func146,Tryz.ntmps146;go_upto_region 1 with(fail);rw[←HW1.o];go_upto_region 2 with(fail);have hBD:Gw w1 w1.drew:=(Gw.refl _).drew;have hqC:Gw w1 w1:=Gw.refl _;have hqB:Gw w1 w1:=Gw.refl _;clear a0 a1 b0 b1
  go_region_held3 (fun W=>W.cell? ⟨w.heap.size,0,none⟩=some (.bool sa)∧W.cell? ⟨w.heap.size,1,none⟩=some (.slice A L c)∧W.cell? ⟨w.heap.size+1,0,none⟩=some (.bool sb)∧W.cell? ⟨w.heap.size+1,1,none⟩=some (.slice B M d)∧Gv (w.heap.size+1+1) w1 W)
   (first|exact HS.o _ (hBD.gv hz2)|exact HS.o _ (hqC.gv hz2)|exact HS.o _ (hqB.gv hz2)|exact HS.o _ (((hqB.gv hz2).set ⟨w.heap.size+1+1,0,none⟩ (Zh _) _).set ⟨w.heap.size+1+1,1,none⟩ (Zh _) _))
   (first|(go_at_call 174; (with_reducible refine(HCL.o _ (by first|exact hBD|assumption)).mono ?_);rintro e w' ⟨C,N,f,rfl,hv,hqB⟩;obtain⟨q0,q1,q2,q3⟩:=HCE.o _ hqB))
  all_goals
   obtain⟨k1,⟨k2,k3⟩,k4⟩:=HB.o.store2 (W:=w') hqB HB.o.bel.size (.bool sa) (.slice C N f);go_wp2_with fail;refine bodyPost_ret (v:= .agg #[.bool sa,.slice C N f]) (by simp[results,Tryz.results146,go_sem,k2,k3]) rfl ⟨_,rfl,⟨.slice C N f,by rw[HQ.o],by rw[HN.o];exact k4 _ _ (Hid.o hv)⟩,k1⟩
 ·
  have hss:(sa==sb)=false:=by simpa using hs
  have HC:Hid (∀W,Gw w1 W→Calls Tryz.prog 126 #[.slice A L c,.slice B M d] W fun e W'=>e= .returned (.int .i64 (Z27 a.natAbs b.natAbs))∧Gw w1 W'):=fun W hW=>
   (Z21 _ _ a.natAbs b.natAbs W (HU.o W hW).1 (HU.o W hW).2 k HK.o.1 HK.o.2 (by omega)).mono fun e W' ⟨h1,h2⟩=>⟨h1,hW.step h2.below⟩
  have hsg:(a<0∧¬b<0∧sa=true∧sb=false)∨(¬a<0∧b<0∧sa=false∧sb=true):=by rw[←hsa,←hsb]at hs⊢;by_cases h1:a<0<;>by_cases h2:b<0<;>simp[h1,h2]at hs⊢
  clear hs;rcases Nat.lt_trichotomy a.natAbs b.natAbs with hc|hc|hc
  ·
   rw[Z1u hc]at HC;have HN:Hid ((a+b).natAbs=b.natAbs - a.natAbs):=(by show _=_;omega);have HQ:Hid (decide (a+b<0)=sb):=(by show _=_;rw[←hsb,decide_eq_decide];omega);have HLE:Hid (a.natAbs≤b.natAbs):=Nat.le_of_lt hc
   have HCL:Hid (∀W,Gw w1 W→Calls Tryz.prog 175 #[.slice B M d,.slice A L c] W fun e W'=>∃C N f,e= .returned (.slice C N f)∧Hid (Z09 W' (.slice C N f) (b.natAbs - a.natAbs))∧Gw w1 W'):=fun W hW=>
    (Zac _ _ b.natAbs a.natAbs W (HU.o W hW).2 (HU.o W hW).1 k HK.o.2 HLE.o hk2).mono fun e W' ⟨v,h1,h3,h4⟩=>by obtain⟨C,N,f,rfl⟩:=Z01 h3;exact⟨C,N,f,h1,h3,Gw.step hW h4⟩
   clear hc hsg hsa hsb;go_enter Tryz.func146,Tryz.ntmps146;go_upto_region 1 with(fail);rw[←HW1.o];go_wp2_with fail;refine(HC.o w1 hqB0).mono ?_;rintro e w2 ⟨rfl,hqC⟩;go_upto_region 8 with(fail);have hBD:Gw w1 w2.drew:=hqC.drew;have hqB:Gw w1 w2:=hqC;clear a0 a1 b0 b1
   go_region_held3 (fun W=>W.cell? ⟨w.heap.size,0,none⟩=some (.bool sa)∧W.cell? ⟨w.heap.size,1,none⟩=some (.slice A L c)∧W.cell? ⟨w.heap.size+1,0,none⟩=some (.bool sb)∧W.cell? ⟨w.heap.size+1,1,none⟩=some (.slice B M d)∧Gv (w.heap.size+1+1) w1 W)
    (first|exact HS.o _ (hBD.gv hz2)|exact HS.o _ (hqC.gv hz2)|exact HS.o _ (hqB.gv hz2)|exact HS.o _ (((hqB.gv hz2).set ⟨w.heap.size+1+1,0,none⟩ (Zh _) _).set ⟨w.heap.size+1+1,1,none⟩ (Zh _) _))
    (first|(go_at_call 175; (with_reducible refine(HCL.o _ (by first|exact hBD|assumption)).mono ?_);rintro e w' ⟨C,N,f,rfl,hv,hqB⟩;obtain⟨q0,q1,q2,q3⟩:=HCE.o _ hqB))
   all_goals
    obtain⟨k1,⟨k2,k3⟩,k4⟩:=HB.o.store2 (W:=w') hqB HB.o.bel.size (.bool sb) (.slice C N f);go_wp2_with fail;refine bodyPost_ret (v:= .agg #[.bool sb,.slice C N f]) (by simp[results,Tryz.results146,go_sem,k2,k3]) rfl ⟨_,rfl,⟨.slice C N f,by rw[HQ.o],by rw[HN.o];exact k4 _ _ (Hid.o hv)⟩,k1⟩
  · have HQ:Hid (a+b=0):=(by show _=_;omega);rw[hc,Z2v]at HC;clear hc hsg hsa hsb;go_enter Tryz.func146,Tryz.ntmps146;go_upto_region 1 with(fail);rw[←HW1.o];go_wp2_with fail;refine(HC.o w1 hqB0).mono ?_;rintro e w2 ⟨rfl,hqC⟩;obtain⟨q0,q1,q2,q3⟩:=HCE.o _ hqC;obtain⟨k1,⟨k2,k3⟩,k4⟩:=HB.o.store2 (W:=w2) hqC HB.o.bel.size (.bool false) (.slice none 0 0);go_wp2_with fail;refine bodyPost_ret (v:= .agg #[.bool false,.slice none 0 0]) (by simp[results,Tryz.results146,go_sem,k2,k3]) rfl ⟨_,rfl,⟨.slice none 0 0,by rw[HQ.o];rfl,by rw[HQ.o];exact Z78 _⟩,k1⟩
  ·
   rw[Z28 hc]at HC;have HN:Hid ((a+b).natAbs=a.natAbs - b.natAbs):=(by show _=_;omega);have HQ:Hid (decide (a+b<0)=sa):=(by show _=_;rw[←hsa,decide_eq_decide];omega);have HLE:Hid (b.natAbs≤a.natAbs):=Nat.le_of_lt hc
   have HCL:Hid (∀W,Gw w1 W→Calls Tryz.prog 175 #[.slice A L c,.slice B M d] W fun e W'=>∃C N f,e= .returned (.slice C N f)∧Hid (Z09 W' (.slice C N f) (a.natAbs - b.natAbs))∧Gw w1 W'):=fun W hW=>
    (Zac _ _ a.natAbs b.natAbs W (HU.o W hW).1 (HU.o W hW).2 k HK.o.1 HLE.o hk2).mono fun e W' ⟨v,h1,h3,h4⟩=>by obtain⟨C,N,f,rfl⟩:=Z01 h3;exact⟨C,N,f,h1,h3,Gw.step hW h4⟩
   clear hc hsg hsa hsb;go_enter Tryz.func146,Tryz.ntmps146;go_upto_region 1 with(fail);rw[←HW1.o];go_wp2_with fail;refine(HC.o w1 hqB0).mono ?_;rintro e w2 ⟨rfl,hqC⟩;go_upto_region 7 with(fail);have hBD:Gw w1 w2.drew:=hqC.drew;have hqB:Gw w1 w2:=hqC;clear a0 a1 b0 b1
   go_region_held3 (fun W=>W.cell? ⟨w.heap.size,0,none⟩=some (.bool sa)∧W.cell? ⟨w.heap.size,1,none⟩=some (.slice A L c)∧W.cell? ⟨w.heap.size+1,0,none⟩=some (.bool sb)∧W.cell? ⟨w.heap.size+1,1,none⟩=some (.slice B M d)∧Gv (w.heap.size+1+1) w1 W)
    (first|exact HS.o _ (hBD.gv hz2)|exact HS.o _ (hqC.gv hz2)|exact HS.o _ (hqB.gv hz2)|exact HS.o _ (((hqB.gv hz2).set ⟨w.heap.size+1+1,0,none⟩ (Zh _) _).set ⟨w.heap.size+1+1,1,none⟩ (Zh _) _))
    (first|(go_at_call 175; (with_reducible refine(HCL.o _ (by first|exact hBD|assumption)).mono ?_);rintro e w' ⟨C,N,f,rfl,hv,hqB⟩;obtain⟨q0,q1,q2,q3⟩:=HCE.o _ hqB))
   all_goals
    obtain⟨k1,⟨k2,k3⟩,k4⟩:=HB.o.store2 (W:=w') hqB HB.o.bel.size (.bool sa) (.slice C N f);go_wp2_with fail;refine bodyPost_ret (v:= .agg #[.bool sa,.slice C N f]) (by simp[results,Tryz.results146,go_sem,k2,k3]) rfl ⟨_,rfl,⟨.slice C N f,by rw[HQ.o],by rw[HN.o];exact k4 _ _ (Hid.o hv)⟩,k1⟩
theorem Zdo {n:Int}(h: -9223372036854775808≤n∧n<0):IntKind.u64.wrap n=n+18446744073709551616:=by
 unfold IntKind.wrap;simp[IntKind.signed,IntKind.bits];omega
theorem Zdp {n:Int}(h: -9223372036854775808≤n∧n<0):IntKind.u64.wrap (-(n+18446744073709551616))= -n:=by
 unfold IntKind.wrap;simp[IntKind.signed,IntKind.bits];omega
theorem Zdq (n:Int)(w:World)(hn:Z0l n):
  Calls Tryz.prog 148 #[.int .i64 n] w (Z6i n w):=by
 obtain⟨hn1,hn2⟩:=hn;obtain⟨w1,hw1⟩:∃w1,w1=w.alloc (.cells #[.bool false,.slice none 0 0] 114):=⟨_,rfl⟩;have HB:Hid (Box w w1 w.heap.size 114 [.bool false,.slice none 0 0]):=by rw[hw1];exact boxI w w (Zm _ _) (.bool false) (.slice none 0 0) (by simp) (by simp)
 have HW1:=Za hw1;clear hw1;by_cases h0:n<0
 · obtain⟨m,hm⟩:∃m:Nat,(m:Int)= -n:=⟨n.natAbs,by omega⟩;have HNO:=Za (Z3a m w1 (by omega));rw[hm]at HNO;have HA:Hid (n.natAbs=m):=(by show _=_;omega);have hw2:=Zdo ⟨hn1,h0⟩;have hw3:=Zdp ⟨hn1,h0⟩;have HS:Hid (decide (n<0)=true):=decide_eq_true h0;have hd:decide (n<0)=true:=decide_eq_true h0;clear hm;go_enter Tryz.func148,Tryz.ntmps148;go_upto_region 1 with(fail);rw[←HW1.o];go_wp2_with fail;refine HNO.o.mono ?_;rintro e w2 ⟨v,rfl,hv,hb⟩;obtain⟨A,L,c,rfl⟩:=Z01 hv;have d0:w2.cell? ⟨w.heap.size,0,none⟩=some (.bool false):=(HB.o.at_ hb 0).1;have d1:w2.cell? ⟨w.heap.size,1,none⟩=some (.slice none 0 0):=(HB.o.at_ hb 1).1;have f0:=(HB.o.at_ hb 0).2;have f1:=(HB.o.at_ hb 1).2;obtain⟨k1,⟨k2,k3⟩,k4⟩:=HB.o.store2 hb HB.o.bel.size (.bool true) (.slice A L c);have HV:=Za hv;clear hv hb;go_wp2_with fail;refine bodyPost_ret (v:= .agg #[.bool true,.slice A L c]) (by simp[results,Tryz.results148,go_sem,k2,k3]) rfl ⟨_,rfl,⟨.slice A L c,by rw[HS.o],by rw[HA.o];exact k4 _ _ HV.o⟩,k1⟩
 · obtain⟨m,hm⟩:∃m:Nat,(m:Int)=n:=⟨n.natAbs,by omega⟩;have HNO:=Za (Z3a m w1 (by omega));rw[hm]at HNO;have HA:Hid (n.natAbs=m):=(by show _=_;omega);have hw2:IntKind.u64.wrap n=n:=IntWalk.u64_in _ (by omega);have HS:Hid (decide (n<0)=false):=decide_eq_false h0;have hd:decide (n<0)=false:=decide_eq_false h0;clear hm;go_enter Tryz.func148,Tryz.ntmps148;go_upto_region 1 with(fail);rw[←HW1.o];go_wp2_with fail;refine HNO.o.mono ?_;rintro e w2 ⟨v,rfl,hv,hb⟩;obtain⟨A,L,c,rfl⟩:=Z01 hv;have d0:w2.cell? ⟨w.heap.size,0,none⟩=some (.bool false):=(HB.o.at_ hb 0).1;have d1:w2.cell? ⟨w.heap.size,1,none⟩=some (.slice none 0 0):=(HB.o.at_ hb 1).1;have f0:=(HB.o.at_ hb 0).2;have f1:=(HB.o.at_ hb 1).2;obtain⟨k1,⟨k2,k3⟩,k4⟩:=HB.o.store2 hb HB.o.bel.size (.bool false) (.slice A L c);have HV:=Za hv;clear hv hb;go_wp2_with fail;refine bodyPost_ret (v:= .agg #[.bool false,.slice A L c]) (by simp[results,Tryz.results148,go_sem,k2,k3]) rfl ⟨_,rfl,⟨.slice A L c,by rw[HS.o],by rw[HA.o];exact k4 _ _ HV.o⟩,k1⟩
end Go.Proofs.YtcemlhbfemenpaaGreatDoor
