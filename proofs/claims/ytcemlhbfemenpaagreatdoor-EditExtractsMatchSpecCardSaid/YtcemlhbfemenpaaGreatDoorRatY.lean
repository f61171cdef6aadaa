/- Several texts laid into one: Quotients as the program has them; the contract of num.Over; The contract of num.Over, continued; -/
import Derived.Test.YtcemlhbfemenpaaGreatDoorNumC
set_option maxHeartbeats 8000000
set_option maxRecDepth 100000
namespace Go.Proofs.YtcemlhbfemenpaaGreatDoor
open Go.RowKit Go.Dw
def Z1a (w:World)(v:Value)(z:Int):Prop:=∃u,v= .agg #[.bool (decide (z<0)),u]∧Z09 w u z.natAbs
theorem Z1a.below {w w':World}{v:Value}{z:Int}(h:Z1a w v z)(hb:Below w.heap.size w w'):Z1a w' v z:=by
 obtain⟨u,e,h⟩:=h;exact⟨u,e,h.below hb⟩
def Zcj (w:World)(v:Value)(z:Int)(d:Nat):Prop:=∃u b,v= .agg #[.bool (decide (z<0)),u,b]∧Z09 w u z.natAbs∧Z09 w b d∧0<d
theorem Zcj.below {w w':World}{v:Value}{z:Int}{d:Nat}(h:Zcj w v z d)(hb:Below w.heap.size w w'):Zcj w' v z d:=by
 obtain⟨a,b,e,h,k,hd⟩:=h;exact⟨a,b,e,h.below hb,k.below hb,hd⟩
def Z10 (w:World)(v:Value)(q:Rat):Prop:=Zcj w v q.num q.den
theorem Z10.below {w w':World}{v:Value}{q:Rat}(h:Z10 w v q)(hb:Below w.heap.size w w'):Z10 w' v q:=Zcj.below h hb
def Z1r (q:Rat)(w:World)(e:Ending)(w':World):Prop:=∃v,e= .returned v∧Z10 w' v q∧Below w.heap.size w w'
def Z6i (z:Int)(w:World)(e:Ending)(w':World):Prop:=∃v,e= .returned v∧Z1a w' v z∧Below w.heap.size w w'
theorem Z0k {w:World}{v:Value}{n:Nat}(h:Z09 w v n):∃A c L,v= .slice A L c∧(L=0↔n=0)∧(L=1→∃b off,A=some ⟨b,off,none⟩∧b<w.heap.size∧w.cell? ⟨b,off,none⟩=some (.int .u32 (n:Int)))∧(n=1→L=1):=by
 obtain⟨A,c,l,rfl,hr,hn,rfl⟩:=h;refine⟨A,c,l.length,rfl, ?_,fun h1=> ?_,fun h1=> ?_⟩
 · rw[hn.zero_iff (by decide)];exact⟨fun e=>Zk e,fun e=>by rw[e];rfl⟩
 · obtain⟨b,off,e,hb,hc⟩:=Z0s hr (by omega);have:=hc 0 (by omega);rw[←(Z99 hn).2.1 h1]at this;exact⟨b,off,e,hb,this⟩
 ·
  rcases Nat.lt_trichotomy l.length 1 with e|e|e
  · have:l= []:=Zk (by omega);subst this;simp[val]at h1
  · exact e
  · have h2:=Z3q hn (by omega);have h3:W32 ^ 1≤W32 ^ (l.length - 1):=Nat.pow_le_pow_right (by decide) (by omega);have h4:W32 ^ 1=4294967296:=(by decide);omega
structure OvW (w w1:World)(sg:Bool)(u:Value):Prop where
 bel:Below w.heap.size w w1
 sz:w1.heap.size=w.heap.size+2
 b0:Blk w1 w.heap.size 114 [.bool sg,u]
 b1:Blk w1 (w.heap.size+1) 116 [.bool false,.slice none 0 0,.slice none 0 0]
theorem OvW.mk' (w:World)(sg:Bool)(u:Value):OvW w ((w.alloc (.cells #[.bool sg,u] 114)).alloc (.cells #[.bool false,.slice none 0 0,.slice none 0 0] 116)) sg u:=by
 refine⟨((Zm _ _).alloc (Zh _) _).alloc (by simp) _,by simp, ?_, ?_⟩
 · exact(Below.heap_alloc _ _ _ (by simp)).trans (Blk.new w _ [.bool sg,u])
 · have:=Blk.new (w.alloc (.cells #[.bool sg,u] 114)) 116 [.bool false,.slice none 0 0,.slice none 0 0];simpa using this
theorem OvW.cells {w w1 W:World}{sg:Bool}{u:Value}(h:OvW w w1 sg u)(hb:Below w1.heap.size w1 W):
  (W.cell? ⟨w.heap.size,0,none⟩=some (.bool sg)∧W.cell? ⟨w.heap.size,1,none⟩=some u)∧
  (W.cell? ⟨w.heap.size+1,0,none⟩=some (.bool false)∧W.cell? ⟨w.heap.size+1,1,none⟩=some (.slice none 0 0)∧W.cell? ⟨w.heap.size+1,2,none⟩=some (.slice none 0 0))∧
  (W.frozen? ⟨w.heap.size+1,0,none⟩=false∧W.frozen? ⟨w.heap.size+1,1,none⟩=false∧W.frozen? ⟨w.heap.size+1,2,none⟩=false)∧w.heap.size≠w.heap.size+1:=by
 have c0:Blk W w.heap.size 114 [.bool sg,u]:=(hb.block _ h.b0.lt).trans h.b0;have c1:Blk W (w.heap.size+1) 116 [.bool false,.slice none 0 0,.slice none 0 0]:=(hb.block _ h.b1.lt).trans h.b1;exact⟨⟨c0.cell 0,c0.cell 1⟩,⟨c1.cell 0,c1.cell 1,c1.cell 2⟩,⟨c1.frozen 0,c1.frozen 1,c1.frozen 2⟩,by omega⟩
def Z3o (w W:World)(x y z:Value):World:=((W.setCell ⟨w.heap.size+1,0,none⟩ x).setCell ⟨w.heap.size+1,1,none⟩ y).setCell ⟨w.heap.size+1,2,none⟩ z
theorem Z09.other {W W':World}{g:Nat}{t:TypeId}{cs:List Value}(h:Blk W g t cs)(hc:∀c∈cs,∀m,c≠ .int .u32 m)(hs:W.heap.size≤W'.heap.size)(hh:∀b,b≠g→W'.heap[b]? =W.heap[b]?){v:Value}{n:Nat}(hv:Z09 W v n):Z09 W' v n:=by
 obtain⟨A,c,l,rfl,hr,hn,hvl⟩:=hv;refine⟨A,c,l,rfl, ?_,hn,hvl⟩;rcases hr with hr|⟨b,off,e,hlt,hcl⟩
 · exact .inl hr
 ·
  by_cases hl:l= []
  · exact .inl (by rw[hl];rfl)
  · have hne:b≠g:=(by rintro rfl;have h0:=hcl 0 (.int .u32 (l.getD 0 0:Nat)) (Z6a l 0 (List.length_pos_iff.2 hl));rw[Nat.add_zero,h.cell]at h0;exact hc _ (List.mem_of_getElem? h0) _ rfl);exact .inr ⟨b,off,e,by omega,fun j u hu=>(World.cell?_of_block (hh b hne)).trans (hcl j u hu)⟩
theorem OvW.store {w w1 W:World}{sg:Bool}{u:Value}(h:OvW w w1 sg u)(hb:Below w1.heap.size w1 W)(x y z:Value):
  Below w.heap.size w (Z3o w W x y z)∧((Z3o w W x y z).cell? ⟨w.heap.size+1,0,none⟩=some x∧(Z3o w W x y z).cell? ⟨w.heap.size+1,1,none⟩=some y∧(Z3o w W x y z).cell? ⟨w.heap.size+1,2,none⟩=some z)∧
  ∀v n,Z09 W v n→Z09 (Z3o w W x y z) v n:=by
 have h1:Below w.heap.size w W:=h.bel.trans (hb.mono (by rw[h.sz];omega));have c1:Blk W (w.heap.size+1) 116 [.bool false,.slice none 0 0,.slice none 0 0]:=(hb.block _ h.b1.lt).trans h.b1;have c2:=((c1.set_ 0 x).set_ 1 y).set_ 2 z;have hB:Below w.heap.size w (Z3o w W x y z):=((h1.setCell (p:=⟨w.heap.size+1,0,none⟩) (by show _≤w.heap.size+1;omega) _).setCell (p:=⟨w.heap.size+1,1,none⟩) (by show _≤w.heap.size+1;omega) _).setCell (p:=⟨w.heap.size+1,2,none⟩) (by show _≤w.heap.size+1;omega) _;refine⟨hB,⟨c2.cell 0,c2.cell 1,c2.cell 2⟩,fun v n hv=> ?_⟩;refine Z09.other c1 (fun c hc m=>by simp at hc;rcases hc with rfl|rfl<;>simp) (by simp[Z3o,World.setCell]) (fun b hb=> ?_) hv;unfold Z3o;rw[Below.heap_setCell _ ⟨w.heap.size+1,2,none⟩ _ b hb,Below.heap_setCell _ ⟨w.heap.size+1,1,none⟩ _ b hb,Below.heap_setCell _ ⟨w.heap.size+1,0,none⟩ _ b hb]
theorem Zdl (u vd:Value)(sg:Bool)(w:World)(hu:Z09 w u 0):
  Calls Tryz.prog 116 #[.agg #[.bool sg,u],vd] w (Z1r 0 w):=by
 obtain⟨A,c,L,rfl,hL,_,_⟩:=Z0k hu;have hL0:L=0:=hL.2 rfl;subst hL0;have HON:Hid (∀W,Calls Tryz.prog 149 #[] W fun e w'=>∃v,e= .returned v∧Z09 w' v 1∧Below W.heap.size W w'):=fun W=>one_any W;obtain⟨w1,hw1⟩:∃w1,w1=(w.alloc (.cells #[.bool sg,.slice A 0 c] 114)).alloc (.cells #[.bool false,.slice none 0 0,.slice none 0 0] 116):=⟨_,rfl⟩;have HO:Hid (OvW w w1 sg (.slice A 0 c)):=by rw[hw1];exact OvW.mk' w sg _
 obtain⟨⟨c0,c1⟩,⟨r0,r1,r2⟩,⟨f0,f1,f2⟩,hne⟩:=HO.o.cells (Zm _ _);have HW1:=Za hw1;clear hu hL hw1;go_enter Tryz.func116,Tryz.ntmps116;go_upto_region 1 with(fail);rw[←HW1.o];go_wp2_with fail;refine(HON.o _).mono ?_;rintro e w2 ⟨v,rfl,hv,hb⟩;obtain⟨⟨d0,d1⟩,⟨s0,s1,s2⟩,⟨g0,g1,g2⟩,_⟩:=HO.o.cells hb;have HV:=Za hv;have HB:=Za hb;clear hv hb c0 c1 r0 r1 r2 f0 f1 f2;obtain⟨A2,c2,L2,hv2,hz2⟩:=Z0k HV.o;subst hv2;clear hz2;have HV2:Hid True:=trivial;go_wp2_with fail;obtain⟨k1,⟨k2,k3,k4⟩,k5⟩:=HO.o.store HB.o (.bool false) (.slice none 0 0) (.slice A2 L2 c2);unfold Z3o at k1 k2 k3 k4 k5;refine bodyPost_ret (v:= .agg #[.bool false,.slice none 0 0,.slice A2 L2 c2]) (by simp[results,Tryz.results116,go_sem,k2,k3,k4]) rfl ⟨_,rfl,⟨.slice none 0 0,.slice A2 L2 c2,by simp, ?_, ?_,by simp⟩,k1⟩
 · exact Z78 _
 · have:=HV2.o;exact k5 _ _ (by first|exact HV.o|(rw[←this];exact HV.o))
theorem beq1 {n:Nat}(h:n≠1):((n:Int)==1)=false:=by simp;omega
def OvId (w:World)(sg:Bool)(u b:Value)(z d:Nat)(e:Ending)(w':World):Prop:=e= .returned (.agg #[.bool sg,u,b])∧Z09 w' u z∧Z09 w' b d∧Below w.heap.size w w'
theorem over_d1 (u vd:Value)(sg:Bool)(z:Nat)(w:World)(hu:Z09 w u z)(g:Z09 w vd 1)(hz:0<z):
  Calls Tryz.prog 116 #[.agg #[.bool sg,u],vd] w (OvId w sg u vd z 1):=by
 have HU:=Za hu;have HG:=Za g;obtain⟨A,c,L,rfl,hL,_,_⟩:=Z0k hu;obtain⟨B,c2,M,rfl,hM,hM1,hM2⟩:=Z0k g;have hm1:M=1:=hM2 rfl;subst hm1;obtain⟨b,off,rfl,hb,hcb⟩:=hM1 rfl
 have hLp:0<L:=by
  rcases Nat.eq_zero_or_pos L with e|e
  · have:=hL.1 e;omega
  · exact e
 obtain⟨w1,hw1⟩:∃w1,w1=(w.alloc (.cells #[.bool sg,.slice A L c] 114)).alloc (.cells #[.bool false,.slice none 0 0,.slice none 0 0] 116):=⟨_,rfl⟩;have HO:Hid (OvW w w1 sg (.slice A L c)):=by rw[hw1];exact OvW.mk' w sg _
 obtain⟨⟨c0,c1⟩,⟨r0,r1,r2⟩,⟨f0,f1,f2⟩,hne⟩:=HO.o.cells (Zm _ _);have hcb1:w1.cell? ⟨b,off,none⟩=some (.int .u32 1):=by rw[HO.o.bel.cell (by exact hb)];exact hcb
 have hL0:((L:Int)==0)=false:=by simp;omega
 have HW1:=Za hw1;clear hu g hL hw1 hM hM1 hM2 hb hcb;go_enter Tryz.func116,Tryz.ntmps116;go_upto_region 1 with(fail);rw[←HW1.o];go_wp2_with fail;obtain⟨k1,⟨k2,k3,k4⟩,k5⟩:=HO.o.store (Zm _ _) (.bool sg) (.slice A L c) (.slice (some ⟨b,off,none⟩) 1 c2);unfold Z3o at k1 k2 k3 k4 k5;refine bodyPost_ret (v:= .agg #[.bool sg,.slice A L c,.slice (some ⟨b,off,none⟩) 1 c2]) (by simp[results,Tryz.results116,go_sem,k2,k3,k4]) rfl ⟨rfl, ?_, ?_,k1⟩
 · exact k5 _ _ (HU.o.below HO.o.bel)
 · exact k5 _ _ (HG.o.below HO.o.bel)
theorem over_cop (u vd:Value)(sg:Bool)(z d:Nat)(w:World)(hu:Z09 w u z)(g:Z09 w vd d)(hz:0<z)(hd1:d≠1)(k:Nat)(hk:Lim k z)(gk:Lim k d)(hk2:k≤549755813888)(hcop:Nat.gcd z d=1):
  Calls Tryz.prog 116 #[.agg #[.bool sg,u],vd] w (OvId w sg u vd z d):=by
 have HU:=Za hu;have HG:=Za g;obtain⟨A,c,L,rfl,hL,_,_⟩:=Z0k hu;obtain⟨B,c2,M,rfl,hM,hM1,hM2⟩:=Z0k g
 have hLp:0<L:=by
  rcases Nat.eq_zero_or_pos L with e|e
  · have:=hL.1 e;omega
  · exact e
 obtain⟨w1,hw1⟩:∃w1,w1=(w.alloc (.cells #[.bool sg,.slice A L c] 114)).alloc (.cells #[.bool false,.slice none 0 0,.slice none 0 0] 116):=⟨_,rfl⟩;have HO:Hid (OvW w w1 sg (.slice A L c)):=by rw[hw1];exact OvW.mk' w sg _
 have HGC:Hid (Calls Tryz.prog 150 #[.slice A L c,.slice B M c2] w1 fun e w'=>∃v,e= .returned v∧Z09 w' v 1∧Below w1.heap.size w1 w'):=by have:=Zdi _ _ z d w1 (hu.below HO.o.bel) (g.below HO.o.bel) k hk gk hk2;rw[hcop]at this;exact this
 obtain⟨⟨c0,c1⟩,⟨r0,r1,r2⟩,⟨f0,f1,f2⟩,hne⟩:=HO.o.cells (Zm _ _);have hL0:((L:Int)==0)=false:=by simp;omega
 have HW1:=Za hw1;have hd2:((d:Int)==1)=false:=beq1 hd1;by_cases hM0:M=1
 ·
  subst hM0;obtain⟨b,off,rfl,hb,hcb⟩:=hM1 rfl;have hcb1:w1.cell? ⟨b,off,none⟩=some (.int .u32 (d:Int)):=by rw[HO.o.bel.cell (by exact hb)];exact hcb
  clear hu g hL hw1 hM hM1 hM2 hb hcb hk gk hcop;go_enter Tryz.func116,Tryz.ntmps116;go_upto_region 1 with(fail);rw[←HW1.o];go_wp2_with fail;refine HGC.o.mono ?_;rintro e w2 ⟨v,rfl,hv,hb⟩;obtain⟨A2,c3,L2,hv2,_,hl1,hl2⟩:=Z0k hv;have hl3:L2=1:=hl2 rfl;subst hv2 hl3;obtain⟨b4,o4,rfl,_,hc4⟩:=hl1 rfl;obtain⟨⟨d0,d1⟩,⟨s0,s1,s2⟩,⟨g0,g1,g2⟩,_⟩:=HO.o.cells hb;have HB:=Za hb;have hc5:w2.cell? ⟨b4,o4,none⟩=some (.int .u32 1):=hc4;clear hv hb c0 c1 r0 r1 r2 f0 f1 f2 hl1 hl2 hc4 hcb1;go_wp2_with fail;obtain⟨k1,⟨k2,k3,k4⟩,k5⟩:=HO.o.store HB.o (.bool sg) (.slice A L c) (.slice (some ⟨b,off,none⟩) 1 c2);unfold Z3o at k1 k2 k3 k4 k5;refine bodyPost_ret (v:= .agg #[.bool sg,.slice A L c,.slice (some ⟨b,off,none⟩) 1 c2]) (by simp[results,Tryz.results116,go_sem,k2,k3,k4]) rfl ⟨rfl, ?_, ?_,k1⟩
  · exact k5 _ _ ((HU.o.below HO.o.bel).below HB.o)
  · exact k5 _ _ ((HG.o.below HO.o.bel).below HB.o)
 ·
  have hM9:((M:Int)==1)=false:=beq1 hM0;clear hu g hL hw1 hM hM1 hM2 hk gk hcop;go_enter Tryz.func116,Tryz.ntmps116;go_upto_region 1 with(fail);rw[←HW1.o];go_wp2_with fail;refine HGC.o.mono ?_;rintro e w2 ⟨v,rfl,hv,hb⟩;obtain⟨A2,c3,L2,hv2,_,hl1,hl2⟩:=Z0k hv;have hl3:L2=1:=hl2 rfl;subst hv2 hl3;obtain⟨b4,o4,rfl,_,hc4⟩:=hl1 rfl;obtain⟨⟨d0,d1⟩,⟨s0,s1,s2⟩,⟨g0,g1,g2⟩,_⟩:=HO.o.cells hb;have HB:=Za hb;have hc5:w2.cell? ⟨b4,o4,none⟩=some (.int .u32 1):=hc4;clear hv hb c0 c1 r0 r1 r2 f0 f1 f2 hl1 hl2 hc4;go_wp2_with fail;obtain⟨k1,⟨k2,k3,k4⟩,k5⟩:=HO.o.store HB.o (.bool sg) (.slice A L c) (.slice B M c2);unfold Z3o at k1 k2 k3 k4 k5;refine bodyPost_ret (v:= .agg #[.bool sg,.slice A L c,.slice B M c2]) (by simp[results,Tryz.results116,go_sem,k2,k3,k4]) rfl ⟨rfl, ?_, ?_,k1⟩
  · exact k5 _ _ ((HU.o.below HO.o.bel).below HB.o)
  · exact k5 _ _ ((HG.o.below HO.o.bel).below HB.o)
def OvLo (w:World)(sg:Bool)(z d:Nat)(e:Ending)(w':World):Prop:=∃u b,e= .returned (.agg #[.bool sg,u,b])∧Z09 w' u (z / Nat.gcd z d)∧Z09 w' b (d / Nat.gcd z d)∧Below w.heap.size w w'
theorem over_gen (u vd:Value)(sg:Bool)(z d:Nat)(w:World)(hu:Z09 w u z)(g:Z09 w vd d)(hz:0<z)(hd1:d≠1)(k:Nat)(hk:Lim k z)(gk:Lim k d)(hk2:k≤549755813888)(hcop:Nat.gcd z d≠1):
  Calls Tryz.prog 116 #[.agg #[.bool sg,u],vd] w (OvLo w sg z d):=by
 have HU:=Za hu;have HG:=Za g;have hgp:0<Nat.gcd z d:=Nat.gcd_pos_of_pos_left _ hz;have hgl:Lim k (Nat.gcd z d):=hk.le (Nat.gcd_le_left _ hz);have HKK:=Za (And.intro hk gk);obtain⟨A,c,L,rfl,hL,_,_⟩:=Z0k hu;obtain⟨B,c2,M,rfl,hM,hM1,hM2⟩:=Z0k g
 have hLp:0<L:=by
  rcases Nat.eq_zero_or_pos L with e|e
  · have:=hL.1 e;omega
  · exact e
 obtain⟨w1,hw1⟩:∃w1,w1=(w.alloc (.cells #[.bool sg,.slice A L c] 114)).alloc (.cells #[.bool false,.slice none 0 0,.slice none 0 0] 116):=⟨_,rfl⟩;have HO:Hid (OvW w w1 sg (.slice A L c)):=by rw[hw1];exact OvW.mk' w sg _
 have HP:Hid (OvLo w sg z d=fun e w'=>∃u b,e= .returned (.agg #[.bool sg,u,b])∧Z09 w' u (z / Nat.gcd z d)∧Z09 w' b (d / Nat.gcd z d)∧Below w.heap.size w w'):=rfl;rw[HP.o];have HGC:Hid (Calls Tryz.prog 150 #[.slice A L c,.slice B M c2] w1 fun e w'=>∃v,e= .returned v∧Z09 w' v (Nat.gcd z d)∧Below w1.heap.size w1 w'):=Zdi _ _ z d w1 (hu.below HO.o.bel) (g.below HO.o.bel) k hk gk hk2
 have HDN:Hid (∀W vg,Below w1.heap.size w1 W→Z09 W vg (Nat.gcd z d)→Calls Tryz.prog 151 #[.slice A L c,vg] W (Z53 z (Nat.gcd z d) W)):=fun W vg hW hv=>
  Z79 _ _ z _ W ((HU.o.below HO.o.bel).below hW) hv k HKK.o.1 hgl hk2 hgp
 have HDD:Hid (∀W vg,Below w1.heap.size w1 W→Z09 W vg (Nat.gcd z d)→Calls Tryz.prog 151 #[.slice B M c2,vg] W (Z53 d (Nat.gcd z d) W)):=fun W vg hW hv=>
  Z79 _ _ d _ W ((HG.o.below HO.o.bel).below hW) hv k HKK.o.2 hgl hk2 hgp
 obtain⟨⟨c0,c1⟩,⟨r0,r1,r2⟩,⟨f0,f1,f2⟩,hne⟩:=HO.o.cells (Zm _ _);have hL0:((L:Int)==0)=false:=by simp;omega
 have HW1:=Za hw1;have hd2:((d:Int)==1)=false:=beq1 hd1;generalize Nat.gcd z d=G at*;have hG2:((G:Int)==1)=false:=beq1 hcop;clear HP HKK hgl;by_cases hM0:M=1
 ·
  subst hM0;obtain⟨b,off,rfl,hb,hcb⟩:=hM1 rfl;have hcb1:w1.cell? ⟨b,off,none⟩=some (.int .u32 (d:Int)):=by rw[HO.o.bel.cell (by exact hb)];exact hcb
  clear hu g hL hw1 hM hM1 hM2 hb hcb hk gk;go_enter Tryz.func116,Tryz.ntmps116;go_upto_region 1 with(fail);rw[←HW1.o];go_wp2_with fail;refine HGC.o.mono ?_;rintro e w2 ⟨v,rfl,hv,hb⟩;obtain⟨A2,c3,L2,hv2,hl0,hl1,_⟩:=Z0k hv;subst hv2;obtain⟨⟨d0,d1⟩,⟨s0,s1,s2⟩,⟨g0,g1,g2⟩,_⟩:=HO.o.cells hb;have HB:=Za hb;have HV:=Za hv;clear hv hb c0 c1 r0 r1 r2 f0 f1 f2 hl0 hcb1;by_cases hL21:L2=1
  · subst hL21;obtain⟨b4,o4,rfl,_,hc4⟩:=hl1 rfl;clear hl1;go_wp2_with fail;refine(HDN.o _ _ HB.o HV.o).mono ?_;rintro e w3 ⟨n1,n2,rfl,hn1,hn2,hb3⟩;have HB3:=Za (HB.o.trans (hb3.mono HB.o.size));have HV3:=Za (HV.o.below hb3);have HN1:=Za hn1;obtain⟨⟨d2,d3⟩,⟨s3,s4,s5⟩,⟨g3,g4,g5⟩,_⟩:=HO.o.cells HB3.o;clear hb3 hn1 hn2 d0 d1 s0 s1 s2 g0 g1 g2 hc4;go_wp2_with fail;refine(HDD.o _ _ HB3.o HV3.o).mono ?_;rintro e w4 ⟨m1,m2,rfl,hm1,hm2,hb4⟩;have HB4:=Za (HB3.o.trans (hb4.mono HB3.o.size));have HN4:=Za (HN1.o.below hb4);have HM4:=Za hm1;obtain⟨⟨d0,d1⟩,⟨s0,s1,s2⟩,⟨g0,g1,g2⟩,_⟩:=HO.o.cells HB4.o;obtain⟨A5,c5,L5,hv5,_⟩:=Z0k HN4.o;obtain⟨A6,c6,L6,hv6,_⟩:=Z0k HM4.o;subst hv5 hv6;clear hb4 hm1 hm2 d2 d3 s3 s4 s5 g3 g4 g5;go_wp2_with fail;obtain⟨k1,⟨k2,k3,k4⟩,k5⟩:=HO.o.store HB4.o (.bool sg) (.slice A5 L5 c5) (.slice A6 L6 c6);unfold Z3o at k1 k2 k3 k4 k5;exact bodyPost_ret (v:= .agg #[.bool sg,.slice A5 L5 c5,.slice A6 L6 c6]) (by simp[results,Tryz.results116,go_sem,k2,k3,k4]) rfl ⟨_,_,rfl,k5 _ _ HN4.o,k5 _ _ HM4.o,k1⟩
  · have hL22:((L2:Int)==1)=false:=beq1 hL21;clear hl1;go_wp2_with fail;refine(HDN.o _ _ HB.o HV.o).mono ?_;rintro e w3 ⟨n1,n2,rfl,hn1,hn2,hb3⟩;have HB3:=Za (HB.o.trans (hb3.mono HB.o.size));have HV3:=Za (HV.o.below hb3);have HN1:=Za hn1;obtain⟨⟨d2,d3⟩,⟨s3,s4,s5⟩,⟨g3,g4,g5⟩,_⟩:=HO.o.cells HB3.o;clear hb3 hn1 hn2 d0 d1 s0 s1 s2 g0 g1 g2;go_wp2_with fail;refine(HDD.o _ _ HB3.o HV3.o).mono ?_;rintro e w4 ⟨m1,m2,rfl,hm1,hm2,hb4⟩;have HB4:=Za (HB3.o.trans (hb4.mono HB3.o.size));have HN4:=Za (HN1.o.below hb4);have HM4:=Za hm1;obtain⟨⟨d0,d1⟩,⟨s0,s1,s2⟩,⟨g0,g1,g2⟩,_⟩:=HO.o.cells HB4.o;obtain⟨A5,c5,L5,hv5,_⟩:=Z0k HN4.o;obtain⟨A6,c6,L6,hv6,_⟩:=Z0k HM4.o;subst hv5 hv6;clear hb4 hm1 hm2 d2 d3 s3 s4 s5 g3 g4 g5;go_wp2_with fail;obtain⟨k1,⟨k2,k3,k4⟩,k5⟩:=HO.o.store HB4.o (.bool sg) (.slice A5 L5 c5) (.slice A6 L6 c6);unfold Z3o at k1 k2 k3 k4 k5;exact bodyPost_ret (v:= .agg #[.bool sg,.slice A5 L5 c5,.slice A6 L6 c6]) (by simp[results,Tryz.results116,go_sem,k2,k3,k4]) rfl ⟨_,_,rfl,k5 _ _ HN4.o,k5 _ _ HM4.o,k1⟩
 ·
  have hM9:((M:Int)==1)=false:=beq1 hM0;clear hu g hL hw1 hM hM1 hM2 hk gk;go_enter Tryz.func116,Tryz.ntmps116;go_upto_region 1 with(fail);rw[←HW1.o];go_wp2_with fail;refine HGC.o.mono ?_;rintro e w2 ⟨v,rfl,hv,hb⟩;obtain⟨A2,c3,L2,hv2,hl0,hl1,_⟩:=Z0k hv;subst hv2;obtain⟨⟨d0,d1⟩,⟨s0,s1,s2⟩,⟨g0,g1,g2⟩,_⟩:=HO.o.cells hb;have HB:=Za hb;have HV:=Za hv;clear hv hb c0 c1 r0 r1 r2 f0 f1 f2 hl0;by_cases hL21:L2=1
  · subst hL21;obtain⟨b4,o4,rfl,_,hc4⟩:=hl1 rfl;clear hl1;go_wp2_with fail;refine(HDN.o _ _ HB.o HV.o).mono ?_;rintro e w3 ⟨n1,n2,rfl,hn1,hn2,hb3⟩;have HB3:=Za (HB.o.trans (hb3.mono HB.o.size));have HV3:=Za (HV.o.below hb3);have HN1:=Za hn1;obtain⟨⟨d2,d3⟩,⟨s3,s4,s5⟩,⟨g3,g4,g5⟩,_⟩:=HO.o.cells HB3.o;clear hb3 hn1 hn2 d0 d1 s0 s1 s2 g0 g1 g2 hc4;go_wp2_with fail;refine(HDD.o _ _ HB3.o HV3.o).mono ?_;rintro e w4 ⟨m1,m2,rfl,hm1,hm2,hb4⟩;have HB4:=Za (HB3.o.trans (hb4.mono HB3.o.size));have HN4:=Za (HN1.o.below hb4);have HM4:=Za hm1;obtain⟨⟨d0,d1⟩,⟨s0,s1,s2⟩,⟨g0,g1,g2⟩,_⟩:=HO.o.cells HB4.o;obtain⟨A5,c5,L5,hv5,_⟩:=Z0k HN4.o;obtain⟨A6,c6,L6,hv6,_⟩:=Z0k HM4.o;subst hv5 hv6;clear hb4 hm1 hm2 d2 d3 s3 s4 s5 g3 g4 g5;go_wp2_with fail;obtain⟨k1,⟨k2,k3,k4⟩,k5⟩:=HO.o.store HB4.o (.bool sg) (.slice A5 L5 c5) (.slice A6 L6 c6);unfold Z3o at k1 k2 k3 k4 k5;exact bodyPost_ret (v:= .agg #[.bool sg,.slice A5 L5 c5,.slice A6 L6 c6]) (by simp[results,Tryz.results116,go_sem,k2,k3,k4]) rfl ⟨_,_,rfl,k5 _ _ HN4.o,k5 _ _ HM4.o,k1⟩
  · have hL22:((L2:Int)==1)=false:=beq1 hL21;clear hl1;go_wp2_with fail;refine(HDN.o _ _ HB.o HV.o).mono ?_;rintro e w3 ⟨n1,n2,rfl,hn1,hn2,hb3⟩;have HB3:=Za (HB.o.trans (hb3.mono HB.o.size));have HV3:=Za (HV.o.below hb3);have HN1:=Za hn1;obtain⟨⟨d2,d3⟩,⟨s3,s4,s5⟩,⟨g3,g4,g5⟩,_⟩:=HO.o.cells HB3.o;clear hb3 hn1 hn2 d0 d1 s0 s1 s2 g0 g1 g2;go_wp2_with fail;refine(HDD.o _ _ HB3.o HV3.o).mono ?_;rintro e w4 ⟨m1,m2,rfl,hm1,hm2,hb4⟩;have HB4:=Za (HB3.o.trans (hb4.mono HB3.o.size));have HN4:=Za (HN1.o.below hb4);have HM4:=Za hm1;obtain⟨⟨d0,d1⟩,⟨s0,s1,s2⟩,⟨g0,g1,g2⟩,_⟩:=HO.o.cells HB4.o;obtain⟨A5,c5,L5,hv5,_⟩:=Z0k HN4.o;obtain⟨A6,c6,L6,hv6,_⟩:=Z0k HM4.o;subst hv5 hv6;clear hb4 hm1 hm2 d2 d3 s3 s4 s5 g3 g4 g5;go_wp2_with fail;obtain⟨k1,⟨k2,k3,k4⟩,k5⟩:=HO.o.store HB4.o (.bool sg) (.slice A5 L5 c5) (.slice A6 L6 c6);unfold Z3o at k1 k2 k3 k4 k5;exact bodyPost_ret (v:= .agg #[.bool sg,.slice A5 L5 c5,.slice A6 L6 c6]) (by simp[results,Tryz.results116,go_sem,k2,k3,k4]) rfl ⟨_,_,rfl,k5 _ _ HN4.o,k5 _ _ HM4.o,k1⟩
theorem Z47 (vn vd:Value)(z:Int)(d:Nat)(w:World)(h:Z1a w vn z)(g:Z09 w vd d)(k:Nat)(hk:Lim k z.natAbs)(gk:Lim k d)(hk2:k≤549755813888)(hd:0<d):
  Calls Tryz.prog 116 #[vn,vd] w (Z1r (mkRat z d) w):=by
 obtain⟨u,rfl,hu⟩:=h;by_cases hz:z=0
 · subst hz;have e:mkRat 0 d=0:=Rat.zero_mkRat d;rw[e];exact Zdl u vd _ w hu
 ·
  have hzp:0<z.natAbs:=by omega
  have hdc:decide ((mkRat z d).num<0)=decide (z<0):=decide_eq_decide.2 (Za4 hd);by_cases hg:Nat.gcd z.natAbs d=1
  ·
   obtain⟨e1,e2⟩:=mk_id hd hg
   have fin:∀e w',OvId w (decide (z<0)) u vd z.natAbs d e w'→Z1r (mkRat z d) w e w':=fun e w' ⟨h1,h2,h3,h4⟩=>
    ⟨_,h1,⟨u,vd,by rw[e1],by rw[e1];exact h2,by rw[e2];exact h3,by rw[e2];exact hd⟩,h4⟩
   by_cases hd1:d=1
   · subst hd1;exact(over_d1 u vd _ z.natAbs w hu g hzp).mono fin
   · exact(over_cop u vd _ z.natAbs d w hu g hzp hd1 k hk gk hk2 hg).mono fin
  · have hd1:d≠1:=fun e=>hg (by rw[e];exact Nat.gcd_one_right _);refine(over_gen u vd _ z.natAbs d w hu g hzp hd1 k hk gk hk2 hg).mono fun e w' ⟨u',b',h1,h2,h3,h4⟩=> ?_;refine⟨_,h1,⟨u',b',by rw[hdc],by rw[Zcx hd];exact h2,by rw[Z7u hd];exact h3, ?_⟩,h4⟩;exact(mkRat z d).den_pos
end Go.Proofs.YtcemlhbfemenpaaGreatDoor
