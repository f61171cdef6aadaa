/- Several texts laid into one: The reference's numbers as quotients; boxes of them; The contract of the reference's lowest; Generated (gen/numr.py): the contract of the reference's Times; Generated (gen/numr.py): the contract of the reference's Over; The contract of the reference's add; Generated (gen/numr.py): the contract of the reference's Plus; The contract of strconv.FormatUint at base 10; The contract of the reference's Int; numbers out of ratios' texts; The contract of the reference's Minus; The contract of the reference's Out; -/
import Derived.Test.YtcemlhbfemenpaaGreatDoorOfZ
import Derived.Test.YtcemlhbfemenpaaGreatDoorFacH
import Derived.Test.YtcemlhbfemenpaaGreatDoorShFmt
set_option maxHeartbeats 16000000
set_option maxRecDepth 100000
namespace Go.Proofs.YtcemlhbfemenpaaGreatDoor
open Go.RowKit Go.Dw
def NoI (c:Value):Prop:=∀m,c≠ .int .i64 m
theorem Z0h (b:Bool):NoI (.bool b):=fun _ h=>by cases h
theorem Z03 (A:Option Addr)(n c:Nat):NoI (.slice A n c):=fun _ h=>by cases h
structure Otr (g:Nat)(w w':World):Prop where
 size:w.heap.size≤w'.heap.size
 heap:∀b,b≠g→w'.heap[b]? =w.heap[b]?
theorem Otr.set {g:Nat}{w w':World}(h:Otr g w w')(k:Nat)(u:Value):Otr g w (w'.setCell ⟨g,k,none⟩ u):=
 ⟨by simpa [World.setCell]using h.size,fun b hb=>(Below.heap_setCell w' ⟨g,k,none⟩ u b hb).trans (h.heap b hb)⟩
theorem Otr.refl (g:Nat)(w:World):Otr g w w:=⟨Zh _,fun _ _=>rfl⟩
theorem Zbd (w:World)(g:Nat)(x y z:Value):Otr g w (((w.setCell ⟨g,0,none⟩ x).setCell ⟨g,1,none⟩ y).setCell ⟨g,2,none⟩ z):=(((Otr.refl g w).set 0 x).set 1 y).set 2 z
theorem Z05.other {w w':World}{g:Nat}{t:TypeId}{cs:List Value}(h:Blk w g t cs)(hc:∀c∈cs,NoI c)(ho:Otr g w w'){v:Value}{n:Nat}(hv:Z05 w v n):Z05 w' v n:=by
 obtain⟨A,c,l,rfl,hr,hn,hvl⟩:=hv;refine⟨A,c,l,rfl,hr.kept ho.size (fun b off e h0 _=>ho.heap b ?_),hn,hvl⟩;rintro rfl;obtain⟨b2,off2,e2,_,hcl⟩:=hr.at_ (by rw[Z5q];exact List.length_pos_iff.2 (nc_ne h0));rw[e]at e2;injection e2 with e2;injection e2 with e2 e3;subst e2;have h1:=hcl 0 (.int .i64 (l.getD 0 0:Nat)) (Zd1 l 0 (List.length_pos_iff.2 (nc_ne h0)));rw[Nat.add_zero,h.cell]at h1;exact hc _ (List.mem_of_getElem? h1) _ rfl
def NB (t:TypeId)(w:World)(g:Nat):Prop:=∃x y z,Blk w g t [x,y,z]∧NoI x∧NoI y∧NoI z
theorem NB.lim {t:TypeId}{w w':World}{g:Nat}(h:NB t w g)(ho:Otr g w w'){v:Value}{n:Nat}(hv:Z05 w v n):Z05 w' v n:=by
 obtain⟨x,y,z,hb,hx,hy,hz⟩:=h;exact Z05.other hb (fun c hc=>by simp at hc;rcases hc with rfl|rfl|rfl<;>assumption) ho hv
theorem Z0b {w w':World}{g:Nat}{t:TypeId}{cs:List Value}(h:Blk w g t cs)(hb:Gq w w'):Blk w' g t cs:=h.same (Same.of_below (S:=fun _=>True) hb) trivial
theorem NB.gq {t:TypeId}{w w':World}{g:Nat}(h:NB t w g)(hb:Gq w w'):NB t w' g:=by
 obtain⟨x,y,z,h1,h2⟩:=h;exact⟨x,y,z,Z0b h1 hb,h2⟩
theorem Otr.blk {w w':World}{g g':Nat}{t:TypeId}{cs:List Value}(ho:Otr g w w')(h:Blk w g' t cs)(hne:g'≠g):Blk w' g' t cs:=(ho.heap _ hne).trans h
theorem NB.other {t:TypeId}{w w':World}{g g':Nat}(h:NB t w g')(ho:Otr g w w')(hne:g'≠g):NB t w' g':=by
 obtain⟨x,y,z,h1,h2⟩:=h;exact⟨x,y,z,ho.blk h1 hne,h2⟩
theorem NB.lt {t:TypeId}{w:World}{g:Nat}(h:NB t w g):g<w.heap.size:=by
 obtain⟨x,y,z,h1,_⟩:=h;exact h1.lt
theorem NB.cells {t:TypeId}{w:World}{g:Nat}(h:NB t w g):∃x y z,w.cell? ⟨g,0,none⟩=some x∧w.cell? ⟨g,1,none⟩=some y∧w.cell? ⟨g,2,none⟩=some z∧w.frozen? ⟨g,0,none⟩=false∧w.frozen? ⟨g,1,none⟩=false∧w.frozen? ⟨g,2,none⟩=false:=by
 obtain⟨x,y,z,h1,_⟩:=h;exact⟨x,y,z,h1.cell 0,h1.cell 1,h1.cell 2,h1.frozen 0,h1.frozen 1,h1.frozen 2⟩
theorem NB.new (t:TypeId)(w:World){x y z:Value}(hx:NoI x)(hy:NoI y)(hz:NoI z):NB t (w.alloc (.cells #[x,y,z] t)) w.heap.size:=
 ⟨_,_,_,Blk.new w t [x,y,z],hx,hy,hz⟩
theorem NB.store {t:TypeId}{w:World}{g:Nat}(h:NB t w g){x y z:Value}:Blk (((w.setCell ⟨g,0,none⟩ x).setCell ⟨g,1,none⟩ y).setCell ⟨g,2,none⟩ z) g t [x,y,z]:=by
 obtain⟨a,b,c,h1,_⟩:=h;exact((h1.set_ 0 x).set_ 1 y).set_ 2 z
theorem NB.stored {t:TypeId}{w:World}{g:Nat}(h:NB t w g){x y z:Value}(hx:NoI x)(hy:NoI y)(hz:NoI z):NB t (((w.setCell ⟨g,0,none⟩ x).setCell ⟨g,1,none⟩ y).setCell ⟨g,2,none⟩ z) g:=
 ⟨x,y,z,h.store,hx,hy,hz⟩
theorem Z24 {wc w:World}{g:Nat}(h:Gq wc w)(hg:wc.heap.size≤g)(x y z:Value):Gq wc (((w.setCell ⟨g,0,none⟩ x).setCell ⟨g,1,none⟩ y).setCell ⟨g,2,none⟩ z):=
 ((h.set (p:=⟨g,0,none⟩) hg x).set (p:=⟨g,1,none⟩) hg y).set (p:=⟨g,2,none⟩) hg z
def Z0d (w:World)(v:Value)(q:Rat):Prop:=Z1f w v (decide (q.num<0)) q.num.natAbs q.den
def Z20 (q:Rat)(w:World)(e:Ending)(w':World):Prop:=∃v,e= .returned v∧Z0d w' v q∧Below w.heap.size w w'
theorem Z0c {w:World}{v:Value}{s:Bool}{a b:Nat}(h:Z1f w v s a b):∃A L c B M d,v= .agg #[.bool s,.slice A L c,.slice B M d]∧Z05 w (.slice A L c) a∧Z05 w (.slice B M d) b:=by
 obtain⟨x,y,rfl,hx,hy⟩:=h;obtain⟨A,L,c,rfl⟩:=Z0g hx;obtain⟨B,M,d,rfl⟩:=Z0g hy;exact⟨A,L,c,B,M,d,rfl,hx,hy⟩
theorem Z1f.gq {w w':World}{v:Value}{s:Bool}{a b:Nat}(h:Z1f w v s a b)(hb:Gq w w'):Z1f w' v s a b:=h.below hb
theorem NB.num {t:TypeId}{w w':World}{g:Nat}(h:NB t w g)(ho:Otr g w w'){v:Value}{s:Bool}{a b:Nat}(hv:Z1f w v s a b):Z1f w' v s a b:=by
 obtain⟨x,y,e,h1,h2⟩:=hv;exact⟨x,y,e,h.lim ho h1,h.lim ho h2⟩
def NumB (w:World)(g:Nat)(s:Bool)(a b:Nat):Prop:=∃A L c B M d,Blk w g 85 [.bool s,.slice A L c,.slice B M d]∧Z05 w (.slice A L c) a∧Z05 w (.slice B M d) b
theorem NumB.gq {w w':World}{g:Nat}{s:Bool}{a b:Nat}(h:NumB w g s a b)(hb:Gq w w'):NumB w' g s a b:=by
 obtain⟨A,L,c,B,M,d,h1,h2,h3⟩:=h;exact⟨A,L,c,B,M,d,Z0b h1 hb,h2.below hb,h3.below hb⟩
theorem NumB.nb {w:World}{g:Nat}{s:Bool}{a b:Nat}(h:NumB w g s a b):NB 85 w g:=by
 obtain⟨A,L,c,B,M,d,h1,_⟩:=h;exact⟨_,_,_,h1,Z0h _,Z03 _ _ _,Z03 _ _ _⟩
theorem NumB.other {t:TypeId}{w w':World}{g g':Nat}{s:Bool}{a b:Nat}(h:NumB w g' s a b)(hb:NB t w g)(ho:Otr g w w')(hne:g'≠g):NumB w' g' s a b:=by
 obtain⟨A,L,c,B,M,d,h1,h2,h3⟩:=h;exact⟨A,L,c,B,M,d,ho.blk h1 hne,hb.lim ho h2,hb.lim ho h3⟩
theorem NumB.of {w:World}{g:Nat}{s:Bool}{a b:Nat}{A:Option Addr}{L c:Nat}{B:Option Addr}{M d:Nat}(h:Blk w g 85 [.bool s,.slice A L c,.slice B M d])(hv:Z1f w (.agg #[.bool s,.slice A L c,.slice B M d]) s a b):NumB w g s a b:=by
 obtain⟨x,y,e,h1,h2⟩:=hv;injection e with e;simp only[Array.mk.injEq,List.cons.injEq,and_true,true_and]at e;obtain⟨rfl,rfl⟩:=e;exact⟨A,L,c,B,M,d,h,h1,h2⟩
theorem numQ_mk {w:World}{v:Value}{s:Bool}{a b:Nat}{z:Int}(hb:0<b)(hz:z.natAbs=a)(hs:s=decide (z<0))(h:Z1f w v s (a / Nat.gcd a b) (b / Nat.gcd a b)):Z0d w v (mkRat z b):=by
 unfold Z0d;rw[Zcx hb,Z7u hb,hz]
 have:decide ((mkRat z b).num<0)=s:=by
  rw[hs];by_cases h0:z<0
  · rw[decide_eq_true h0,decide_eq_true ((Za4 hb).2 h0)]
  · rw[decide_eq_false h0,decide_eq_false (fun e=>h0 ((Za4 hb).1 e))]
 rw[this];exact h
attribute [local go_sem ↓] Go.wp_at_zero Go.wp_at_succ
structure NumE (w w1:World)(g:Nat):Prop where
 bel:Below w.heap.size w w1
 le:w.heap.size≤g
 nb:NB 85 w1 g
theorem NumE.cells {w w1 W:World}{g:Nat}(h:NumE w w1 g)(hW:Gq w1 W):∃x y z,W.cell? ⟨g,0,none⟩=some x∧W.cell? ⟨g,1,none⟩=some y∧W.cell? ⟨g,2,none⟩=some z∧W.frozen? ⟨g,0,none⟩=false∧W.frozen? ⟨g,1,none⟩=false∧W.frozen? ⟨g,2,none⟩=false:=(h.nb.gq hW).cells
theorem NumE.stored {w w1 W:World}{g:Nat}(h:NumE w w1 g)(hW:Gq w1 W)(x y z:Value):
  (((W.setCell ⟨g,0,none⟩ x).setCell ⟨g,1,none⟩ y).setCell ⟨g,2,none⟩ z).cell? ⟨g,0,none⟩=some x∧(((W.setCell ⟨g,0,none⟩ x).setCell ⟨g,1,none⟩ y).setCell ⟨g,2,none⟩ z).cell? ⟨g,1,none⟩=some y∧(((W.setCell ⟨g,0,none⟩ x).setCell ⟨g,1,none⟩ y).setCell ⟨g,2,none⟩ z).cell? ⟨g,2,none⟩=some z:=by
 have:=(h.nb.gq hW).store (x:=x) (y:=y) (z:=z);exact⟨this.cell 0,this.cell 1,this.cell 2⟩
theorem NumE.end_ {w w1 W:World}{g:Nat}(h:NumE w w1 g)(hW:Gq w1 W)(x y z:Value){q:Rat}(hq:Z0d W (.agg #[x,y,z]) q):
  Z20 q w (.returned (.agg #[x,y,z])) (((W.setCell ⟨g,0,none⟩ x).setCell ⟨g,1,none⟩ y).setCell ⟨g,2,none⟩ z):=
 ⟨_,rfl,(h.nb.gq hW).num (Zbd _ _ _ _ _) hq,Z24 (h.bel.trans (Below.mono hW h.bel.size)) h.le _ _ _⟩
theorem Zbe (w:World):NumE w (w.alloc (.cells #[.bool false,.slice none 0 0,.slice none 0 0] 85)) w.heap.size:=
 ⟨(Zm _ _).alloc (Zh _) _,Zh _,NB.new _ _ (Z0h _) (Z03 _ _ _) (Z03 _ _ _)⟩
theorem Zcc (w:World)(o:Obj)(g:Nat)(h:g<w.heap.size)(x y z:Value):
  (((w.alloc o).setCell ⟨g,0,none⟩ x).setCell ⟨g,1,none⟩ y).setCell ⟨g,2,none⟩ z=(((w.setCell ⟨g,0,none⟩ x).setCell ⟨g,1,none⟩ y).setCell ⟨g,2,none⟩ z).alloc o:=by
 rw[World.setCell_alloc_past _ _ _ _ h,World.setCell_alloc_past _ _ _ _ (by simpa [World.setCell]using h),World.setCell_alloc_past _ _ _ _ (by simpa [World.setCell]using h)]
theorem Z1m (sg:Bool)(va vb:Value)(a b:Nat)(z:Int)(w:World)(h:Z05 w va a)(g:Z05 w vb b)(hb:0<b)(hz:z.natAbs=a)(hs:0<a→sg=decide (z<0))
  (k:Nat) (hk:Lim k a) (gk:Lim k b) (hk2:k≤100000000):
  Calls Tryz.prog 87 #[.bool sg,va,vb] w (Z20 (mkRat z b) w):=by
 obtain⟨w1,hw1⟩:∃w1,w1=w.alloc (.cells #[.bool false,.slice none 0 0,.slice none 0 0] 85):=⟨_,rfl⟩;have HE:Hid (NumE w w1 w.heap.size):=by rw[hw1];exact Zbe w
 have HW1:=Za hw1;clear hw1;obtain⟨A,c,L,rfl,hL⟩:=Z3b h;obtain⟨B,M,d,rfl⟩:=Z0g g;have HU:Hid (∀W,Gq w1 W→Z05 W (.slice A L c) a∧Z05 W (.slice B M d) b):=fun W hW=>⟨(h.below HE.o.bel).below hW,(g.below HE.o.bel).below hW⟩;have HF:=Za (fun s W (hq:Z1f W s (decide (z<0)) (a / Nat.gcd a b) (b / Nat.gcd a b))=>numQ_mk hb hz rfl hq);have HK:=Za (And.intro hk (And.intro gk (And.intro hk2 hb)));have HS:=Za hs;have HZ:=Za hz;obtain⟨x0,x1,x2,q0,q1,q2,q3,q4,q5⟩:=HE.o.cells (Gq.refl _);clear h g hk gk hk2 hs hz;by_cases h0:a=0
 · have hL0:L=0:=hL.2 h0;subst hL0;have hg1:Gq w1 (w1.alloc (.cells #[.int .i64 1] 3)):=(Gq.refl _).alloc _;obtain⟨k2,k3,k4⟩:=HE.o.stored hg1 (.bool false) (.slice none 0 0) (.slice (some ⟨w1.heap.size,0,none⟩) 1 1);have hq:Z0d (w1.alloc (.cells #[.int .i64 1] 3)) (.agg #[.bool false,.slice none 0 0,.slice (some ⟨w1.heap.size,0,none⟩) 1 1]) (mkRat z b):=(by refine HF.o _ _ ?_;have hz0:decide (z<0)=false:=(by have:=HZ.o;rw[h0]at this;exact decide_eq_false (by omega));rw[hz0,h0,Nat.gcd_zero_left,Nat.zero_div,Nat.div_self hb];exact⟨_,_,rfl,⟨none,0,[],rfl,RdN.nil _ _,Nm.nil,rfl⟩,Z7o w1⟩);have hws:w.heap.size<w1.heap.size:=HE.o.nb.lt;have hqe:=HE.o.end_ hg1 _ _ _ hq;rw[Zcc _ _ _ hws]at k2 k3 k4 hqe;have HQ:=Za hqe;have hd:((0:Int)==0)=true:=rfl;clear hq hg1 hqe;go_enter Tryz.func87,Tryz.ntmps87;go_upto_region 1 with(fail);rw[←HW1.o];go_wp2_with fail;exact bodyPost_ret (v:= .agg #[.bool false,.slice none 0 0,.slice (some ⟨w1.heap.size,0,none⟩) 1 1]) (by simp[results,Tryz.results87,go_sem,k2,k3,k4]) rfl HQ.o
 ·
  have hLn:L≠0:=fun e=>h0 (hL.1 e);have hd:((L:Int)==0)=false:=by rw[beq_eq_false_iff_ne];omega
  have HCM:=Za (Z5s _ _ a b w1 (HU.o w1 (Gq.refl _)).1 (HU.o w1 (Gq.refl _)).2 k HK.o.1 HK.o.2.1 HK.o.2.2.1);obtain⟨G,hG⟩:∃G,Nat.gcd a b=G:=⟨_,rfl⟩;rw[hG]at HCM;have hGp:0<G:=by rw[←hG];exact Nat.gcd_pos_of_pos_right _ hb
  have HGL:Hid (Lim k G):=by show Lim k G;rw[←hG];exact HK.o.2.1.le (Nat.le_of_dvd hb (Nat.gcd_dvd_right _ _))
  have HF2:Hid (∀W A L c B M d,Z05 W (.slice A L c) (a / G)→Z05 W (.slice B M d) (b / G)→Z0d W (.agg #[.bool sg,.slice A L c,.slice B M d]) (mkRat z b)):=fun W A L c B M d h1 h2=>by refine HF.o _ _ ?_;rw[hG,←HS.o (by omega)];exact⟨_,_,rfl,h1,h2⟩
  have h11:Lim 1 1:=by unfold Lim;rw[Nat.pow_one];decide
  have HL1:Hid (k=0∨Lim k 1):=by
   rcases Nat.eq_zero_or_pos k with e|e
   · exact .inl e
   · exact .inr (h11.mono e)
  clear hG hL HZ HS HF;go_enter Tryz.func87,Tryz.ntmps87;go_upto_region 1 with(fail);rw[←HW1.o];go_wp2_with fail;refine HCM.o.mono ?_;rintro e w2 ⟨v,rfl,hv,hb2⟩;obtain⟨C,N,f,rfl⟩:=Z0g hv;have HG2:Hid (Gq w1 w2):=hb2;have HV:=Za hv;clear hv hb2 HCM;have HGA:Hid (Gq w2 (w2.alloc (.cells #[.int .i64 1] 3))):=(Gq.refl _).alloc _;obtain⟨cr,hcr⟩:∃cr,Z27 G 1=cr:=⟨_,rfl⟩;have HCP:Hid (Calls Tryz.prog 129 #[.slice C N f,.slice (some ⟨w2.heap.size,0,none⟩) 1 1] (w2.alloc (.cells #[.int .i64 1] 3)) fun e W=>e= .returned (.int .i64 cr)∧Gq w2 W):=by have:=Z5a (.slice C N f) (.slice (some ⟨w2.heap.size,0,none⟩) 1 1) G 1 _ (HV.o.below HGA.o) (Z7o w2) (k+1) (HGL.o.mono (by omega)) (h11.mono (by omega)) (by have:=HK.o.2.2.1;omega);unfold Z45 at this;rw[hcr]at this;exact this.mono fun e W ⟨h1,h2⟩=>⟨h1,HGA.o.trans h2.below⟩
  have HCR:Hid ((cr==0)=decide (G=1)):=by
   show _=_;rw[←hcr];rcases Nat.lt_trichotomy G 1 with q|q|q
   · rw[Z1u q,decide_eq_false (by omega)];rfl
   · rw[q,Z2v];rfl
   · rw[Z28 q,decide_eq_false (by omega)];rfl
  clear hcr;go_wp2_with fail;refine HCP.o.mono ?_;rintro e w3 ⟨rfl,hg3⟩;have HG3:Hid (Gq w1 w3):=HG2.o.trans hg3;have HG23:Hid (Gq w2 w3):=hg3;clear hg3 HCP HGA;by_cases hG1:G=1
  · have hcb:(cr==0)=true:=(by rw[HCR.o];exact decide_eq_true hG1);obtain⟨y0,y1,y2,r0,r1,r2,r3,r4,r5⟩:=HE.o.cells HG3.o;obtain⟨k2,k3,k4⟩:=HE.o.stored HG3.o (.bool sg) (.slice A L c) (.slice B M d);have HQ:=Za (HE.o.end_ HG3.o _ _ _ (HF2.o w3 A L c B M d (by rw[hG1,Nat.div_one];exact(HU.o w3 HG3.o).1) (by rw[hG1,Nat.div_one];exact(HU.o w3 HG3.o).2)));clear hG1;go_wp2_with fail;exact bodyPost_ret (v:= .agg #[.bool sg,.slice A L c,.slice B M d]) (by simp[results,Tryz.results87,go_sem,k2,k3,k4]) rfl HQ.o
  · have hcb:(cr==0)=false:=(by rw[HCR.o];exact decide_eq_false hG1);have HDA:=Za (Z3v (.slice A L c) (.slice C N f) a G w3 (HU.o w3 HG3.o).1 (HV.o.below HG23.o) hGp k k HK.o.1 HGL.o HK.o.2.2.1 HK.o.2.2.1);go_wp2_with fail;refine HDA.o.mono ?_;rintro e w4 ⟨v1,v2,rfl,hv1, -,hb4⟩;obtain⟨A1,L1,c1,rfl⟩:=Z0g hv1;have HG4:Hid (Gq w1 w4):=HG3.o.trans hb4;have HDB:=Za (Z3v (.slice B M d) (.slice C N f) b G w4 (HU.o w4 HG4.o).2 (HV.o.below (HG23.o.trans hb4)) hGp k k HK.o.2.1 HGL.o HK.o.2.2.1 HK.o.2.2.1);have HV1:=Za hv1;clear hv1 hb4 HDA;go_wp2_with fail;refine HDB.o.mono ?_;rintro e w5 ⟨v3,v4,rfl,hv3, -,hb5⟩;obtain⟨A2,L2,c2,rfl⟩:=Z0g hv3;have HG5:Hid (Gq w1 w5):=HG4.o.trans hb5;obtain⟨y0,y1,y2,r0,r1,r2,r3,r4,r5⟩:=HE.o.cells HG5.o;obtain⟨k2,k3,k4⟩:=HE.o.stored HG5.o (.bool sg) (.slice A1 L1 c1) (.slice A2 L2 c2);have HQ:=Za (HE.o.end_ HG5.o _ _ _ (HF2.o w5 A1 L1 c1 A2 L2 c2 (HV1.o.below hb5) hv3));clear hv3 hb5 HDB;go_wp2_with fail;exact bodyPost_ret (v:= .agg #[.bool sg,.slice A1 L1 c1,.slice A2 L2 c2]) (by simp[results,Tryz.results87,go_sem,k2,k3,k4]) rfl HQ.o
end Go.Proofs.YtcemlhbfemenpaaGreatDoor
namespace Go.Proofs.YtcemlhbfemenpaaGreatDoor
open Go.RowKit Go.Dw
open Go.Dwo (fcL fcN fcK fcZ fcG fcE fcD fcV fcC fcP Z00)
attribute [local go_sem ↓] Go.wp_at_zero Go.wp_at_succ
attribute [local go_sem] Go.Dwo.Oper.tame Go.Dwo.actOf List.getD_cons_zero List.getD_cons_succ
theorem sign_mul {p q:Rat}{sa sb:Bool}(ha:decide (p.num<0)=sa)(hb:decide (q.num<0)=sb)(h:0<p.num.natAbs*q.num.natAbs):(sa !=sb)=decide (p.num*q.num<0):=by
 have hp:p.num≠0:=fun e=>by rw[e]at h;simp at h
 have hq:q.num≠0:=fun e=>by rw[e]at h;simp at h
 rw[←ha,←hb];rcases Int.lt_or_gt_of_ne hp with h1|h1<;>rcases Int.lt_or_gt_of_ne hq with h2|h2
 · rw[decide_eq_true h1,decide_eq_true h2,decide_eq_false (by have:=Int.mul_pos_of_neg_of_neg h1 h2;omega)];rfl
 · rw[decide_eq_true h1,decide_eq_false (by omega),decide_eq_true (Int.mul_neg_of_neg_of_pos h1 h2)];rfl
 · rw[decide_eq_false (by omega),decide_eq_true h2,decide_eq_true (Int.mul_neg_of_pos_of_neg h1 h2)];rfl
 · rw[decide_eq_false (by omega),decide_eq_false (by omega),decide_eq_false (by have:=Int.mul_pos h1 h2;omega)];rfl
structure timB (w0:World)(sa sb:Bool)(A:Option Addr)(L c:Nat)(A':Option Addr)(L' c':Nat)(B:Option Addr)(M d:Nat)(B':Option Addr)(M' d':Nat)(p q:Rat)(W:World):Prop where
 g:Gq w0 W
 nb:NB 85 W (w0.heap.size+1+1)
 ka:Blk W w0.heap.size 85 [.bool sa,.slice A L c,.slice A' L' c']
 kb:Blk W (w0.heap.size+1) 85 [.bool sb,.slice B M d,.slice B' M' d']
 v:Z05 W (.slice A L c) p.num.natAbs∧Z05 W (.slice A' L' c') p.den∧Z05 W (.slice B M d) q.num.natAbs∧Z05 W (.slice B' M' d') q.den
theorem timB.gq {w0:World}{sa sb:Bool}{A:Option Addr}{L c:Nat}{A':Option Addr}{L' c':Nat}{B:Option Addr}{M d:Nat}{B':Option Addr}{M' d':Nat}{p q:Rat}{w w':World}(h:timB w0 sa sb A L c A' L' c' B M d B' M' d' p q w)(hg:Gq w w'):timB w0 sa sb A L c A' L' c' B M d B' M' d' p q w':=
 ⟨h.g.trans hg,h.nb.gq hg,Z0b h.ka hg,Z0b h.kb hg,h.v.1.below hg,h.v.2.1.below hg,h.v.2.2.1.below hg,h.v.2.2.2.below hg⟩
theorem timB.store {w0:World}{sa sb:Bool}{A:Option Addr}{L c:Nat}{A':Option Addr}{L' c':Nat}{B:Option Addr}{M d:Nat}{B':Option Addr}{M' d':Nat}{p q:Rat}{w:World}(h:timB w0 sa sb A L c A' L' c' B M d B' M' d' p q w){x y z:Value}(hx:NoI x)(hy:NoI y)(hz:NoI z):
  timB w0 sa sb A L c A' L' c' B M d B' M' d' p q (((w.setCell ⟨w0.heap.size+1+1,0,none⟩ x).setCell ⟨w0.heap.size+1+1,1,none⟩ y).setCell ⟨w0.heap.size+1+1,2,none⟩ z):=by
 have ho:=Zbd w (w0.heap.size+1+1) x y z;exact⟨Z24 h.g (by omega) _ _ _,h.nb.stored hx hy hz,ho.blk h.ka (by omega),ho.blk h.kb (by omega),h.nb.lim ho h.v.1,h.nb.lim ho h.v.2.1,h.nb.lim ho h.v.2.2.1,h.nb.lim ho h.v.2.2.2⟩
def timF (w0:World)(sa sb:Bool)(A:Option Addr)(L c:Nat)(A':Option Addr)(L' c':Nat)(B:Option Addr)(M d:Nat)(B':Option Addr)(M' d':Nat)(p q:Rat):List Go.Dwo.Fact:= [
 ⟨[],[],fun _ W=>timB w0 sa sb A L c A' L' c' B M d B' M' d' p q W⟩,
 ⟨[0],[],fun vs _=>vs 0= .pointer (some ⟨w0.heap.size,0,none⟩)⟩,
 ⟨[1],[],fun vs _=>vs 1= .bool sa⟩,
 ⟨[2],[],fun vs _=>vs 2= .pointer (some ⟨w0.heap.size+1,0,none⟩)⟩,
 ⟨[3],[],fun vs _=>vs 3= .bool sb⟩,
 ⟨[4],[],fun vs _=>vs 4= .bool (sa !=sb)⟩,
 ⟨[5],[],fun vs _=>vs 5= .pointer (some ⟨w0.heap.size,1,none⟩)⟩,
 ⟨[6],[],fun vs _=>vs 6= .slice A L c⟩,
 ⟨[7],[],fun vs _=>vs 7= .pointer (some ⟨w0.heap.size+1,1,none⟩)⟩,
 ⟨[8],[],fun vs _=>vs 8= .slice B M d⟩,
 ⟨[9],[],fun vs W=>∃X N f,vs 9= .slice X N f∧Z05 W (.slice X N f) (p.num.natAbs*q.num.natAbs)⟩,
 ⟨[10],[],fun vs _=>vs 10= .pointer (some ⟨w0.heap.size,2,none⟩)⟩,
 ⟨[11],[],fun vs _=>vs 11= .slice A' L' c'⟩,
 ⟨[12],[],fun vs _=>vs 12= .pointer (some ⟨w0.heap.size+1,2,none⟩)⟩,
 ⟨[13],[],fun vs _=>vs 13= .slice B' M' d'⟩,
 ⟨[14],[],fun vs W=>∃X N f,vs 14= .slice X N f∧Z05 W (.slice X N f) (p.den*q.den)⟩,
 ⟨[15],[],fun vs W=>∃s X N f Y O t,vs 15= .agg #[.bool s,.slice X N f,.slice Y O t]∧Z0d W (.agg #[.bool s,.slice X N f,.slice Y O t]) (mkRat (p.num*q.num) (p.den*q.den))⟩,
 ⟨[16],[],fun _ W=>∃s X N f Y O t,Blk W (w0.heap.size+1+1) 85 [.bool s,.slice X N f,.slice Y O t]∧Z0d W (.agg #[.bool s,.slice X N f,.slice Y O t]) (mkRat (p.num*q.num) (p.den*q.den))⟩]
theorem timK (w0:World)(sa sb:Bool)(A:Option Addr)(L c:Nat)(A':Option Addr)(L' c':Nat)(B:Option Addr)(M d:Nat)(B':Option Addr)(M' d':Nat)(p q:Rat):∀f∈timF w0 sa sb A L c A' L' c' B M d B' M' d' p q,∀vs w w',Gq w w'→f.says vs w→f.says vs w':=
 fcL (fun _ _ _ hg h=>h.gq hg)<|fcL (fun _ _ _ _ h=>h)<|fcL (fun _ _ _ _ h=>h)<|fcL (fun _ _ _ _ h=>h)<|fcL (fun _ _ _ _ h=>h)<|fcL (fun _ _ _ _ h=>h)<|fcL (fun _ _ _ _ h=>h)<|fcL (fun _ _ _ _ h=>h)<|fcL (fun _ _ _ _ h=>h)<|fcL (fun _ _ _ _ h=>h)<|fcL (fun _ _ _ hg h=>(by obtain⟨X,N,f,h1,h2⟩:=h;exact⟨X,N,f,h1,h2.below hg⟩))<|fcL (fun _ _ _ _ h=>h)<|fcL (fun _ _ _ _ h=>h)<|fcL (fun _ _ _ _ h=>h)<|fcL (fun _ _ _ _ h=>h)<|fcL (fun _ _ _ hg h=>(by obtain⟨X,N,f,h1,h2⟩:=h;exact⟨X,N,f,h1,h2.below hg⟩))<|fcL (fun _ _ _ hg h=>(by obtain⟨s,X,N,f,Y,O,t,h1,h2⟩:=h;exact⟨s,X,N,f,Y,O,t,h1,Z1f.gq h2 hg⟩))<|fcL (fun _ _ _ hg h=>(by obtain⟨s,X,N,f,Y,O,t,h1,h2⟩:=h;exact⟨s,X,N,f,Y,O,t,Z0b h1 hg,Z1f.gq h2 hg⟩))<|fcN _
theorem Zcd (va vb:Value)(p q:Rat)(w:World)(h:Z0d w va p)(g:Z0d w vb q)(k:Nat)(hk:Z0i k p)(gk:Z0i k q)(hk2:k+k≤1000000):
  Calls Tryz.prog 52 #[va,vb] w (Z20 (p*q) w):=by
 obtain⟨R,hR⟩:∃R,p*q=R:=⟨_,rfl⟩;rw[hR];have HR:Hid (mkRat (p.num*q.num) (p.den*q.den)=R):=by show _=_;rw[←hR];exact by rw[←Rat.mkRat_mul_mkRat,Z1e,Z1e]
 clear hR;obtain⟨sa,hsa⟩:∃s,decide (p.num<0)=s:=⟨_,rfl⟩;obtain⟨sb,hsb⟩:∃s,decide (q.num<0)=s:=⟨_,rfl⟩;have HSA:=Za hsa;have HSB:=Za hsb;unfold Z0d at h g;rw[hsa]at h;rw[hsb]at g;clear hsa hsb;obtain⟨A,L,c,A',L',c',rfl,hu,hx⟩:=Z0c h;obtain⟨B,M,d,B',M',d',rfl,gu,gx⟩:=Z0c g;obtain⟨wa,hwa⟩:∃wa,wa=w.alloc (.cells #[.bool sa,.slice A L c,.slice A' L' c'] 85):=⟨_,rfl⟩;obtain⟨wb,hwb⟩:∃wb,wb=wa.alloc (.cells #[.bool sb,.slice B M d,.slice B' M' d'] 85):=⟨_,rfl⟩;obtain⟨w1,hw1⟩:∃w1,w1=wb.alloc (.cells #[.bool false,.slice none 0 0,.slice none 0 0] 85):=⟨_,rfl⟩;have z1:wa.heap.size=w.heap.size+1:=by rw[hwa];simp
 have z2:wb.heap.size=w.heap.size+1+1:=by rw[hwb];simp[z1]
 have ba:Gq w wa:=by rw[hwa];exact(Gq.refl _).alloc _
 have bb:Gq wa wb:=by rw[hwb];exact(Gq.refl _).alloc _
 have bc:Gq wb w1:=by rw[hw1];exact(Gq.refl _).alloc _
 have HBASE:Hid (timB w sa sb A L c A' L' c' B M d B' M' d' p q w1.drew):=by
  have hd:Gq w1 w1.drew:=(Gq.refl _).drew;refine⟨(ba.trans (bb.trans bc)).trans hd, ?_, ?_, ?_, ?_⟩
  · rw[←z2];rw[hw1]at hd⊢;exact NB.gq (NB.new _ _ (Z0h _) (Z03 _ _ _) (Z03 _ _ _)) hd
  · refine Z0b (?_:Blk wa w.heap.size _ _) (bb.trans (bc.trans hd));rw[hwa];exact Blk.new w _ _
  · refine Z0b (?_:Blk wb (w.heap.size+1) _ _) (bc.trans hd);rw[hwb,←z1];exact Blk.new wa _ _
  · have hg:=(ba.trans (bb.trans bc)).trans hd;exact⟨hu.below hg,hx.below hg,gu.below hg,gx.below hg⟩
 have HK:=Za (And.intro hk (And.intro gk hk2));rw[hwb,hwa]at hw1;have HW1:=Za hw1;clear hw1 hwa hwb h g hu hx gu gx hk gk hk2 ba bb bc z1 z2;have HD:Hid (0<p.den*q.den):=Nat.mul_pos p.den_pos q.den_pos;have HSG:=Za (fun h=>sign_mul (p:=p) (q:=q) HSA.o HSB.o h);obtain⟨w0,hw0⟩:∃w0,w0=w:=⟨_,rfl⟩;subst hw0;go_enter Tryz.func52,Tryz.ntmps52;go_upto_region 1 with(fail);rw[←HW1.o];refine Z00 _ (by kernel_rfl) [[],[0],[],[2],[0,1,2,3],[],[5],[],[7],[5,6,7,8],[],[10],[],[12],[10,11,12,13],[0,1,2,3,4,5,6,7,8,9,10,11,12,13,14],[0,1,2,3,4,5,6,7,8,9,10,11,12,13,14,15]] (by kernel_rfl) (by kernel_rfl) [some 5,some 6,some 7,some 8,some 9,some 10,some 11,some 12,some 13,some 14,some 15,some 16,some 17,some 18,some 19,some 20,none] (by kernel_rfl) (fun vs=>by simp only[Go.Dwo.putA,Go.Dwo.putL,if_true,Act.put,Zb,Zc,Zd];rfl) (timF w0 sa sb A L c A' L' c' B M d B' M' d' p q) (by kernel_rfl) ?_ ⟨?_, ?_, ?_, ?_, ?_, ?_, ?_, ?_, ?_, ?_, ?_, ?_, ?_, ?_, ?_, ?_, ?_,trivial⟩ ?_
 · exact fcZ [0] rfl<|fcL (HBASE.o)<|fcN _
 · intro Ls vs w Kk H hu hD hK;go_simp;exact fcV hK (fcP 1 rfl rfl fun _=>rfl)
 · intro Ls vs w Kk H hu hD hK;have base:timB w0 sa sb A L c A' L' c' B M d B' M' d' p q w:=fcG H hu hD 0 rfl rfl rfl;have f0:vs 0= .pointer (some ⟨w0.heap.size,0,none⟩):=fcG H hu hD 1 rfl rfl rfl;have d0:w.cell? ⟨w0.heap.size,0,none⟩=_:=base.ka.cell 0;have d1:w.cell? ⟨w0.heap.size,1,none⟩=_:=base.ka.cell 1;have d2:w.cell? ⟨w0.heap.size,2,none⟩=_:=base.ka.cell 2;simp only[Ze,Zf]at d0 d1 d2;go_simp;exact fcV hK (fcP 2 rfl rfl fun _=>rfl)
 · intro Ls vs w Kk H hu hD hK;go_simp;exact fcV hK (fcP 3 rfl rfl fun _=>rfl)
 · intro Ls vs w Kk H hu hD hK;have base:timB w0 sa sb A L c A' L' c' B M d B' M' d' p q w:=fcG H hu hD 0 rfl rfl rfl;have f2:vs 2= .pointer (some ⟨w0.heap.size+1,0,none⟩):=fcG H hu hD 3 rfl rfl rfl;have d0:w.cell? ⟨w0.heap.size+1,0,none⟩=_:=base.kb.cell 0;have d1:w.cell? ⟨w0.heap.size+1,1,none⟩=_:=base.kb.cell 1;have d2:w.cell? ⟨w0.heap.size+1,2,none⟩=_:=base.kb.cell 2;simp only[Ze,Zf]at d0 d1 d2;go_simp;exact fcV hK (fcP 4 rfl rfl fun _=>rfl)
 · intro Ls vs w Kk H hu hD hK;have f1:vs 1= .bool sa:=fcG H hu hD 2 rfl rfl rfl;have f3:vs 3= .bool sb:=fcG H hu hD 4 rfl rfl rfl;go_simp;exact fcV hK (fcP 5 rfl rfl fun _=>rfl)
 · intro Ls vs w Kk H hu hD hK;go_simp;exact fcV hK (fcP 6 rfl rfl fun _=>rfl)
 · intro Ls vs w Kk H hu hD hK;have base:timB w0 sa sb A L c A' L' c' B M d B' M' d' p q w:=fcG H hu hD 0 rfl rfl rfl;have f5:vs 5= .pointer (some ⟨w0.heap.size,1,none⟩):=fcG H hu hD 6 rfl rfl rfl;have d0:w.cell? ⟨w0.heap.size,0,none⟩=_:=base.ka.cell 0;have d1:w.cell? ⟨w0.heap.size,1,none⟩=_:=base.ka.cell 1;have d2:w.cell? ⟨w0.heap.size,2,none⟩=_:=base.ka.cell 2;simp only[Ze,Zf]at d0 d1 d2;go_simp;exact fcV hK (fcP 7 rfl rfl fun _=>rfl)
 · intro Ls vs w Kk H hu hD hK;go_simp;exact fcV hK (fcP 8 rfl rfl fun _=>rfl)
 · intro Ls vs w Kk H hu hD hK;have base:timB w0 sa sb A L c A' L' c' B M d B' M' d' p q w:=fcG H hu hD 0 rfl rfl rfl;have f7:vs 7= .pointer (some ⟨w0.heap.size+1,1,none⟩):=fcG H hu hD 8 rfl rfl rfl;have d0:w.cell? ⟨w0.heap.size+1,0,none⟩=_:=base.kb.cell 0;have d1:w.cell? ⟨w0.heap.size+1,1,none⟩=_:=base.kb.cell 1;have d2:w.cell? ⟨w0.heap.size+1,2,none⟩=_:=base.kb.cell 2;simp only[Ze,Zf]at d0 d1 d2;go_simp;exact fcV hK (fcP 9 rfl rfl fun _=>rfl)
 · intro Ls vs w Kk H hu hD hK;have base:timB w0 sa sb A L c A' L' c' B M d B' M' d' p q w:=fcG H hu hD 0 rfl rfl rfl;have f6:vs 6= .slice A L c:=fcG H hu hD 7 rfl rfl rfl;have f8:vs 8= .slice B M d:=fcG H hu hD 9 rfl rfl rfl;go_simp;refine(Z19 _ _ _ _ w base.v.1 base.v.2.2.1 k k HK.o.1.1 HK.o.2.1.1 (Nat.le_trans HK.o.2.2 (by omega))).mono ?_;rintro e w' ⟨v,rfl,hv, -,hb⟩;obtain⟨X,N,f,rfl⟩:=Z0g hv;exact⟨_,rfl,fcC hK (fun f hf _ h=>timK w0 sa sb A L c A' L' c' B M d B' M' d' p q f hf _ _ _ hb h) (fcP 10 rfl rfl fun _=>⟨X,N,f,rfl,hv⟩)⟩
 · intro Ls vs w Kk H hu hD hK;go_simp;exact fcV hK (fcP 11 rfl rfl fun _=>rfl)
 · intro Ls vs w Kk H hu hD hK;have base:timB w0 sa sb A L c A' L' c' B M d B' M' d' p q w:=fcG H hu hD 0 rfl rfl rfl;have f10:vs 10= .pointer (some ⟨w0.heap.size,2,none⟩):=fcG H hu hD 11 rfl rfl rfl;have d0:w.cell? ⟨w0.heap.size,0,none⟩=_:=base.ka.cell 0;have d1:w.cell? ⟨w0.heap.size,1,none⟩=_:=base.ka.cell 1;have d2:w.cell? ⟨w0.heap.size,2,none⟩=_:=base.ka.cell 2;simp only[Ze,Zf]at d0 d1 d2;go_simp;exact fcV hK (fcP 12 rfl rfl fun _=>rfl)
 · intro Ls vs w Kk H hu hD hK;go_simp;exact fcV hK (fcP 13 rfl rfl fun _=>rfl)
 · intro Ls vs w Kk H hu hD hK;have base:timB w0 sa sb A L c A' L' c' B M d B' M' d' p q w:=fcG H hu hD 0 rfl rfl rfl;have f12:vs 12= .pointer (some ⟨w0.heap.size+1,2,none⟩):=fcG H hu hD 13 rfl rfl rfl;have d0:w.cell? ⟨w0.heap.size+1,0,none⟩=_:=base.kb.cell 0;have d1:w.cell? ⟨w0.heap.size+1,1,none⟩=_:=base.kb.cell 1;have d2:w.cell? ⟨w0.heap.size+1,2,none⟩=_:=base.kb.cell 2;simp only[Ze,Zf]at d0 d1 d2;go_simp;exact fcV hK (fcP 14 rfl rfl fun _=>rfl)
 · intro Ls vs w Kk H hu hD hK;have base:timB w0 sa sb A L c A' L' c' B M d B' M' d' p q w:=fcG H hu hD 0 rfl rfl rfl;have f11:vs 11= .slice A' L' c':=fcG H hu hD 12 rfl rfl rfl;have f13:vs 13= .slice B' M' d':=fcG H hu hD 14 rfl rfl rfl;go_simp;refine(Z19 _ _ _ _ w base.v.2.1 base.v.2.2.2 k k HK.o.1.2 HK.o.2.1.2 (Nat.le_trans HK.o.2.2 (by omega))).mono ?_;rintro e w' ⟨v,rfl,hv, -,hb⟩;obtain⟨X,N,f,rfl⟩:=Z0g hv;exact⟨_,rfl,fcC hK (fun f hf _ h=>timK w0 sa sb A L c A' L' c' B M d B' M' d' p q f hf _ _ _ hb h) (fcP 15 rfl rfl fun _=>⟨X,N,f,rfl,hv⟩)⟩
 · intro Ls vs w Kk H hu hD hK;have f4:vs 4= .bool (sa !=sb):=fcG H hu hD 5 rfl rfl rfl;obtain⟨Xx9,Nx9,fx9,ex9,vx9⟩:∃X N f,vs 9= .slice X N f∧Z05 w (.slice X N f) (p.num.natAbs*q.num.natAbs):=fcG H hu hD 10 rfl rfl rfl;obtain⟨Xx14,Nx14,fx14,ex14,vx14⟩:∃X N f,vs 14= .slice X N f∧Z05 w (.slice X N f) (p.den*q.den):=fcG H hu hD 15 rfl rfl rfl;go_simp;refine(Z1m (sa !=sb) _ _ (p.num.natAbs*q.num.natAbs) (p.den*q.den) (p.num*q.num) w vx9 vx14 HD.o (Int.natAbs_mul _ _) HSG.o (k+k) (HK.o.1.1.mul HK.o.2.1.1) (HK.o.1.2.mul HK.o.2.1.2) (Nat.le_trans HK.o.2.2 (by omega))).mono ?_;rintro e w' ⟨v,rfl,hv,hb⟩;obtain⟨X,N,f,Y,O,t,rfl, -, -⟩:=Z0c hv;exact⟨_,rfl,fcC hK (fun f hf _ h=>timK w0 sa sb A L c A' L' c' B M d B' M' d' p q f hf _ _ _ hb h) (fcP 16 rfl rfl fun _=>⟨_,X,N,f,Y,O,t,rfl,hv⟩)⟩
 · intro Ls vs w Kk H hu hD hK;have base:timB w0 sa sb A L c A' L' c' B M d B' M' d' p q w:=fcG H hu hD 0 rfl rfl rfl;obtain⟨sx15,Xx15,Nx15,fx15,Yx15,Ox15,tx15,ex15,vx15⟩:∃s X N f Y O t,vs 15= .agg #[.bool s,.slice X N f,.slice Y O t]∧Z0d w (.agg #[.bool s,.slice X N f,.slice Y O t]) (mkRat (p.num*q.num) (p.den*q.den)):=fcG H hu hD 16 rfl rfl rfl;obtain⟨x0,x1,x2,c0,c1,c2,d0,d1,d2⟩:=base.nb.cells;go_simp;have ho:=Zbd w (w0.heap.size+1+1) (.bool sx15) (.slice Xx15 Nx15 fx15) (.slice Yx15 Ox15 tx15);refine hK.out _ _ (fcL (fun _ _ _ h=>h.store (Z0h _) (Z03 _ _ _) (Z03 _ _ _))<|fcL (fun _ _ _ h=>h)<|fcL (fun _ _ _ h=>h)<|fcL (fun _ _ _ h=>h)<|fcL (fun _ _ _ h=>h)<|fcL (fun _ _ _ h=>h)<|fcL (fun _ _ _ h=>h)<|fcL (fun _ _ _ h=>h)<|fcL (fun _ _ _ h=>h)<|fcL (fun _ _ _ h=>h)<|fcL (fun _ _ _ h=>(by obtain⟨X,N,f,h1,h2⟩:=h;exact⟨X,N,f,h1,base.nb.lim ho h2⟩))<|fcL (fun _ _ _ h=>h)<|fcL (fun _ _ _ h=>h)<|fcL (fun _ _ _ h=>h)<|fcL (fun _ _ _ h=>h)<|fcL (fun _ _ _ h=>(by obtain⟨X,N,f,h1,h2⟩:=h;exact⟨X,N,f,h1,base.nb.lim ho h2⟩))<|fcL (fun _ _ _ h=>(by obtain⟨s,X,N,f,Y,O,t,h1,h2⟩:=h;exact⟨s,X,N,f,Y,O,t,h1,base.nb.num ho h2⟩))<|fcL (fun hn=>absurd (show(16:Nat)∈([16]:List Nat)from by decide) hn)<|fcN _) ?_;exact fcP 17 rfl rfl fun _=>⟨sx15,Xx15,Nx15,fx15,Yx15,Ox15,tx15,base.nb.store,base.nb.num ho vx15⟩
 · intro vs w H;have base:timB w0 sa sb A L c A' L' c' B M d B' M' d' p q w:=fcE H 0 rfl rfl;have f0:vs 0= .pointer (some ⟨w0.heap.size,0,none⟩):=fcE H 1 rfl rfl;have f1:vs 1= .bool sa:=fcE H 2 rfl rfl;have f2:vs 2= .pointer (some ⟨w0.heap.size+1,0,none⟩):=fcE H 3 rfl rfl;have f3:vs 3= .bool sb:=fcE H 4 rfl rfl;have f4:vs 4= .bool (sa !=sb):=fcE H 5 rfl rfl;have f5:vs 5= .pointer (some ⟨w0.heap.size,1,none⟩):=fcE H 6 rfl rfl;have f6:vs 6= .slice A L c:=fcE H 7 rfl rfl;have f7:vs 7= .pointer (some ⟨w0.heap.size+1,1,none⟩):=fcE H 8 rfl rfl;have f8:vs 8= .slice B M d:=fcE H 9 rfl rfl;have f10:vs 10= .pointer (some ⟨w0.heap.size,2,none⟩):=fcE H 11 rfl rfl;have f11:vs 11= .slice A' L' c':=fcE H 12 rfl rfl;have f12:vs 12= .pointer (some ⟨w0.heap.size+1,2,none⟩):=fcE H 13 rfl rfl;have f13:vs 13= .slice B' M' d':=fcE H 14 rfl rfl;obtain⟨s,X,N,f,Y,O,t,hk,hv⟩:∃s X N f Y O t,Blk w (w0.heap.size+1+1) 85 [.bool s,.slice X N f,.slice Y O t]∧Z0d w (.agg #[.bool s,.slice X N f,.slice Y O t]) (mkRat (p.num*q.num) (p.den*q.den)):=fcE H 17 rfl rfl;clear H;simp only[Nat.zero_add,Nat.reduceAdd];have k2:=hk.cell 0;have k3:=hk.cell 1;have k4:=hk.cell 2;simp only[Ze,Zf]at k2 k3 k4;have HH:Hid (Z0d w (.agg #[.bool s,.slice X N f,.slice Y O t]) R∧Gq w0 w):=⟨by rw[←HR.o];exact hv,base.g⟩;clear hk hv base;simp only[f0,f1,f2,f3,f4,f5,f6,f7,f8,f10,f11,f12,f13];clear f0 f1 f2 f3 f4 f5 f6 f7 f8 f10 f11 f12 f13;generalize vs 9=z9,vs 14=z14,vs 15=z15;go_wp2_with fail;exact bodyPost_ret (v:= .agg #[.bool s,.slice X N f,.slice Y O t]) (by simp[results,Tryz.results52,go_sem,k2,k3,k4]) rfl ⟨_,rfl,HH.o.1,HH.o.2⟩
def overQ (p q:Rat):Rat:=mkRat (p.num*q.den*(if q.num<0 then -1 else 1)) (p.den*q.num.natAbs)
theorem Zfh {p q:Rat}{sa sb:Bool}(ha:decide (p.num<0)=sa)(hb:decide (q.num<0)=sb)(h:0<p.num.natAbs*q.den):(sa !=sb)=decide (p.num*q.den*(if q.num<0 then -1 else 1)<0):=by
 have hp:p.num≠0:=fun e=>by rw[e]at h;simp at h
 have hd:(0:Int)<q.den:=by have:=q.den_pos;omega
 rw[←ha,←hb];by_cases h2:q.num<0
 ·
  rw[if_pos h2,decide_eq_true h2];rcases Int.lt_or_gt_of_ne hp with h1|h1
  · have:=Int.mul_neg_of_neg_of_pos h1 hd;rw[decide_eq_true h1,decide_eq_false (by omega)];rfl
  · have:=Int.mul_pos h1 hd;rw[decide_eq_false (by omega),decide_eq_true (by omega)];rfl
 ·
  rw[if_neg h2,decide_eq_false h2,Int.mul_one];rcases Int.lt_or_gt_of_ne hp with h1|h1
  · have:=Int.mul_neg_of_neg_of_pos h1 hd;rw[decide_eq_true h1,decide_eq_true (by omega)];rfl
  · have:=Int.mul_pos h1 hd;rw[decide_eq_false (by omega),decide_eq_false (by omega)];rfl
theorem abs_over (p q:Rat):(p.num*q.den*(if q.num<0 then -1 else 1)).natAbs=p.num.natAbs*q.den:=by
 rw[Int.natAbs_mul,Int.natAbs_mul,Int.natAbs_natCast]
 split<;>simp
structure ovrB (w0:World)(sa sb:Bool)(A:Option Addr)(L c:Nat)(A':Option Addr)(L' c':Nat)(B:Option Addr)(M d:Nat)(B':Option Addr)(M' d':Nat)(p q:Rat)(W:World):Prop where
 g:Gq w0 W
 nb:NB 85 W (w0.heap.size+1+1)
 ka:Blk W w0.heap.size 85 [.bool sa,.slice A L c,.slice A' L' c']
 kb:Blk W (w0.heap.size+1) 85 [.bool sb,.slice B M d,.slice B' M' d']
 v:Z05 W (.slice A L c) p.num.natAbs∧Z05 W (.slice A' L' c') p.den∧Z05 W (.slice B M d) q.num.natAbs∧Z05 W (.slice B' M' d') q.den
theorem ovrB.gq {w0:World}{sa sb:Bool}{A:Option Addr}{L c:Nat}{A':Option Addr}{L' c':Nat}{B:Option Addr}{M d:Nat}{B':Option Addr}{M' d':Nat}{p q:Rat}{w w':World}(h:ovrB w0 sa sb A L c A' L' c' B M d B' M' d' p q w)(hg:Gq w w'):ovrB w0 sa sb A L c A' L' c' B M d B' M' d' p q w':=
 ⟨h.g.trans hg,h.nb.gq hg,Z0b h.ka hg,Z0b h.kb hg,h.v.1.below hg,h.v.2.1.below hg,h.v.2.2.1.below hg,h.v.2.2.2.below hg⟩
theorem ovrB.store {w0:World}{sa sb:Bool}{A:Option Addr}{L c:Nat}{A':Option Addr}{L' c':Nat}{B:Option Addr}{M d:Nat}{B':Option Addr}{M' d':Nat}{p q:Rat}{w:World}(h:ovrB w0 sa sb A L c A' L' c' B M d B' M' d' p q w){x y z:Value}(hx:NoI x)(hy:NoI y)(hz:NoI z):
  ovrB w0 sa sb A L c A' L' c' B M d B' M' d' p q (((w.setCell ⟨w0.heap.size+1+1,0,none⟩ x).setCell ⟨w0.heap.size+1+1,1,none⟩ y).setCell ⟨w0.heap.size+1+1,2,none⟩ z):=by
 have ho:=Zbd w (w0.heap.size+1+1) x y z;exact⟨Z24 h.g (by omega) _ _ _,h.nb.stored hx hy hz,ho.blk h.ka (by omega),ho.blk h.kb (by omega),h.nb.lim ho h.v.1,h.nb.lim ho h.v.2.1,h.nb.lim ho h.v.2.2.1,h.nb.lim ho h.v.2.2.2⟩
def ovrF (w0:World)(sa sb:Bool)(A:Option Addr)(L c:Nat)(A':Option Addr)(L' c':Nat)(B:Option Addr)(M d:Nat)(B':Option Addr)(M' d':Nat)(p q:Rat):List Go.Dwo.Fact:= [
 ⟨[],[],fun _ W=>ovrB w0 sa sb A L c A' L' c' B M d B' M' d' p q W⟩,
 ⟨[0],[],fun vs _=>vs 0= .pointer (some ⟨w0.heap.size,0,none⟩)⟩,
 ⟨[1],[],fun vs _=>vs 1= .bool sa⟩,
 ⟨[2],[],fun vs _=>vs 2= .pointer (some ⟨w0.heap.size+1,0,none⟩)⟩,
 ⟨[3],[],fun vs _=>vs 3= .bool sb⟩,
 ⟨[4],[],fun vs _=>vs 4= .bool (sa !=sb)⟩,
 ⟨[5],[],fun vs _=>vs 5= .pointer (some ⟨w0.heap.size,1,none⟩)⟩,
 ⟨[6],[],fun vs _=>vs 6= .slice A L c⟩,
 ⟨[7],[],fun vs _=>vs 7= .pointer (some ⟨w0.heap.size+1,2,none⟩)⟩,
 ⟨[8],[],fun vs _=>vs 8= .slice B' M' d'⟩,
 ⟨[9],[],fun vs W=>∃X N f,vs 9= .slice X N f∧Z05 W (.slice X N f) (p.num.natAbs*q.den)⟩,
 ⟨[10],[],fun vs _=>vs 10= .pointer (some ⟨w0.heap.size,2,none⟩)⟩,
 ⟨[11],[],fun vs _=>vs 11= .slice A' L' c'⟩,
 ⟨[12],[],fun vs _=>vs 12= .pointer (some ⟨w0.heap.size+1,1,none⟩)⟩,
 ⟨[13],[],fun vs _=>vs 13= .slice B M d⟩,
 ⟨[14],[],fun vs W=>∃X N f,vs 14= .slice X N f∧Z05 W (.slice X N f) (p.den*q.num.natAbs)⟩,
 ⟨[15],[],fun vs W=>∃s X N f Y O t,vs 15= .agg #[.bool s,.slice X N f,.slice Y O t]∧Z0d W (.agg #[.bool s,.slice X N f,.slice Y O t]) (mkRat (p.num*q.den*(if q.num<0 then -1 else 1)) (p.den*q.num.natAbs))⟩,
 ⟨[16],[],fun _ W=>∃s X N f Y O t,Blk W (w0.heap.size+1+1) 85 [.bool s,.slice X N f,.slice Y O t]∧Z0d W (.agg #[.bool s,.slice X N f,.slice Y O t]) (mkRat (p.num*q.den*(if q.num<0 then -1 else 1)) (p.den*q.num.natAbs))⟩]
theorem ovrK (w0:World)(sa sb:Bool)(A:Option Addr)(L c:Nat)(A':Option Addr)(L' c':Nat)(B:Option Addr)(M d:Nat)(B':Option Addr)(M' d':Nat)(p q:Rat):∀f∈ovrF w0 sa sb A L c A' L' c' B M d B' M' d' p q,∀vs w w',Gq w w'→f.says vs w→f.says vs w':=
 fcL (fun _ _ _ hg h=>h.gq hg)<|fcL (fun _ _ _ _ h=>h)<|fcL (fun _ _ _ _ h=>h)<|fcL (fun _ _ _ _ h=>h)<|fcL (fun _ _ _ _ h=>h)<|fcL (fun _ _ _ _ h=>h)<|fcL (fun _ _ _ _ h=>h)<|fcL (fun _ _ _ _ h=>h)<|fcL (fun _ _ _ _ h=>h)<|fcL (fun _ _ _ _ h=>h)<|fcL (fun _ _ _ hg h=>(by obtain⟨X,N,f,h1,h2⟩:=h;exact⟨X,N,f,h1,h2.below hg⟩))<|fcL (fun _ _ _ _ h=>h)<|fcL (fun _ _ _ _ h=>h)<|fcL (fun _ _ _ _ h=>h)<|fcL (fun _ _ _ _ h=>h)<|fcL (fun _ _ _ hg h=>(by obtain⟨X,N,f,h1,h2⟩:=h;exact⟨X,N,f,h1,h2.below hg⟩))<|fcL (fun _ _ _ hg h=>(by obtain⟨s,X,N,f,Y,O,t,h1,h2⟩:=h;exact⟨s,X,N,f,Y,O,t,h1,Z1f.gq h2 hg⟩))<|fcL (fun _ _ _ hg h=>(by obtain⟨s,X,N,f,Y,O,t,h1,h2⟩:=h;exact⟨s,X,N,f,Y,O,t,Z0b h1 hg,Z1f.gq h2 hg⟩))<|fcN _
theorem Zfi (va vb:Value)(p q:Rat)(w:World)(h:Z0d w va p)(g:Z0d w vb q)(k:Nat)(hk:Z0i k p)(gk:Z0i k q)(hk2:k+k≤1000000)(hq:q.num≠0):
  Calls Tryz.prog 89 #[va,vb] w (Z20 (overQ p q) w):=by
 obtain⟨R,hR⟩:∃R,overQ p q=R:=⟨_,rfl⟩;rw[hR];have HR:Hid (mkRat (p.num*q.den*(if q.num<0 then -1 else 1)) (p.den*q.num.natAbs)=R):=by show _=_;rw[←hR];exact rfl
 clear hR;obtain⟨sa,hsa⟩:∃s,decide (p.num<0)=s:=⟨_,rfl⟩;obtain⟨sb,hsb⟩:∃s,decide (q.num<0)=s:=⟨_,rfl⟩;have HSA:=Za hsa;have HSB:=Za hsb;unfold Z0d at h g;rw[hsa]at h;rw[hsb]at g;clear hsa hsb;obtain⟨A,L,c,A',L',c',rfl,hu,hx⟩:=Z0c h;obtain⟨B,M,d,B',M',d',rfl,gu,gx⟩:=Z0c g;obtain⟨wa,hwa⟩:∃wa,wa=w.alloc (.cells #[.bool sa,.slice A L c,.slice A' L' c'] 85):=⟨_,rfl⟩;obtain⟨wb,hwb⟩:∃wb,wb=wa.alloc (.cells #[.bool sb,.slice B M d,.slice B' M' d'] 85):=⟨_,rfl⟩;obtain⟨w1,hw1⟩:∃w1,w1=wb.alloc (.cells #[.bool false,.slice none 0 0,.slice none 0 0] 85):=⟨_,rfl⟩;have z1:wa.heap.size=w.heap.size+1:=by rw[hwa];simp
 have z2:wb.heap.size=w.heap.size+1+1:=by rw[hwb];simp[z1]
 have ba:Gq w wa:=by rw[hwa];exact(Gq.refl _).alloc _
 have bb:Gq wa wb:=by rw[hwb];exact(Gq.refl _).alloc _
 have bc:Gq wb w1:=by rw[hw1];exact(Gq.refl _).alloc _
 have HBASE:Hid (ovrB w sa sb A L c A' L' c' B M d B' M' d' p q w1.drew):=by
  have hd:Gq w1 w1.drew:=(Gq.refl _).drew;refine⟨(ba.trans (bb.trans bc)).trans hd, ?_, ?_, ?_, ?_⟩
  · rw[←z2];rw[hw1]at hd⊢;exact NB.gq (NB.new _ _ (Z0h _) (Z03 _ _ _) (Z03 _ _ _)) hd
  · refine Z0b (?_:Blk wa w.heap.size _ _) (bb.trans (bc.trans hd));rw[hwa];exact Blk.new w _ _
  · refine Z0b (?_:Blk wb (w.heap.size+1) _ _) (bc.trans hd);rw[hwb,←z1];exact Blk.new wa _ _
  · have hg:=(ba.trans (bb.trans bc)).trans hd;exact⟨hu.below hg,hx.below hg,gu.below hg,gx.below hg⟩
 have HK:=Za (And.intro hk (And.intro gk hk2));rw[hwb,hwa]at hw1;have HW1:=Za hw1;clear hw1 hwa hwb h g hu hx gu gx hk gk hk2 ba bb bc z1 z2;have HD:Hid (0<p.den*q.num.natAbs):=Nat.mul_pos p.den_pos (by omega);have HSG:=Za (fun h=>Zfh (p:=p) (q:=q) HSA.o HSB.o h);clear hq;obtain⟨w0,hw0⟩:∃w0,w0=w:=⟨_,rfl⟩;subst hw0;go_enter Tryz.func89,Tryz.ntmps89;go_upto_region 1 with(fail);rw[←HW1.o];refine Z00 _ (by kernel_rfl) [[],[0],[],[2],[0,1,2,3],[],[5],[],[7],[5,6,7,8],[],[10],[],[12],[10,11,12,13],[0,1,2,3,4,5,6,7,8,9,10,11,12,13,14],[0,1,2,3,4,5,6,7,8,9,10,11,12,13,14,15]] (by kernel_rfl) (by kernel_rfl) [some 5,some 6,some 7,some 8,some 9,some 10,some 11,some 12,some 13,some 14,some 15,some 16,some 17,some 18,some 19,some 20,none] (by kernel_rfl) (fun vs=>by simp only[Go.Dwo.putA,Go.Dwo.putL,if_true,Act.put,Zb,Zc,Zd];rfl) (ovrF w0 sa sb A L c A' L' c' B M d B' M' d' p q) (by kernel_rfl) ?_ ⟨?_, ?_, ?_, ?_, ?_, ?_, ?_, ?_, ?_, ?_, ?_, ?_, ?_, ?_, ?_, ?_, ?_,trivial⟩ ?_
 · exact fcZ [0] rfl<|fcL (HBASE.o)<|fcN _
 · intro Ls vs w Kk H hu hD hK;go_simp;exact fcV hK (fcP 1 rfl rfl fun _=>rfl)
 · intro Ls vs w Kk H hu hD hK;have base:ovrB w0 sa sb A L c A' L' c' B M d B' M' d' p q w:=fcG H hu hD 0 rfl rfl rfl;have f0:vs 0= .pointer (some ⟨w0.heap.size,0,none⟩):=fcG H hu hD 1 rfl rfl rfl;have d0:w.cell? ⟨w0.heap.size,0,none⟩=_:=base.ka.cell 0;have d1:w.cell? ⟨w0.heap.size,1,none⟩=_:=base.ka.cell 1;have d2:w.cell? ⟨w0.heap.size,2,none⟩=_:=base.ka.cell 2;simp only[Ze,Zf]at d0 d1 d2;go_simp;exact fcV hK (fcP 2 rfl rfl fun _=>rfl)
 · intro Ls vs w Kk H hu hD hK;go_simp;exact fcV hK (fcP 3 rfl rfl fun _=>rfl)
 · intro Ls vs w Kk H hu hD hK;have base:ovrB w0 sa sb A L c A' L' c' B M d B' M' d' p q w:=fcG H hu hD 0 rfl rfl rfl;have f2:vs 2= .pointer (some ⟨w0.heap.size+1,0,none⟩):=fcG H hu hD 3 rfl rfl rfl;have d0:w.cell? ⟨w0.heap.size+1,0,none⟩=_:=base.kb.cell 0;have d1:w.cell? ⟨w0.heap.size+1,1,none⟩=_:=base.kb.cell 1;have d2:w.cell? ⟨w0.heap.size+1,2,none⟩=_:=base.kb.cell 2;simp only[Ze,Zf]at d0 d1 d2;go_simp;exact fcV hK (fcP 4 rfl rfl fun _=>rfl)
 · intro Ls vs w Kk H hu hD hK;have f1:vs 1= .bool sa:=fcG H hu hD 2 rfl rfl rfl;have f3:vs 3= .bool sb:=fcG H hu hD 4 rfl rfl rfl;go_simp;exact fcV hK (fcP 5 rfl rfl fun _=>rfl)
 · intro Ls vs w Kk H hu hD hK;go_simp;exact fcV hK (fcP 6 rfl rfl fun _=>rfl)
 · intro Ls vs w Kk H hu hD hK;have base:ovrB w0 sa sb A L c A' L' c' B M d B' M' d' p q w:=fcG H hu hD 0 rfl rfl rfl;have f5:vs 5= .pointer (some ⟨w0.heap.size,1,none⟩):=fcG H hu hD 6 rfl rfl rfl;have d0:w.cell? ⟨w0.heap.size,0,none⟩=_:=base.ka.cell 0;have d1:w.cell? ⟨w0.heap.size,1,none⟩=_:=base.ka.cell 1;have d2:w.cell? ⟨w0.heap.size,2,none⟩=_:=base.ka.cell 2;simp only[Ze,Zf]at d0 d1 d2;go_simp;exact fcV hK (fcP 7 rfl rfl fun _=>rfl)
 · intro Ls vs w Kk H hu hD hK;go_simp;exact fcV hK (fcP 8 rfl rfl fun _=>rfl)
 · intro Ls vs w Kk H hu hD hK;have base:ovrB w0 sa sb A L c A' L' c' B M d B' M' d' p q w:=fcG H hu hD 0 rfl rfl rfl;have f7:vs 7= .pointer (some ⟨w0.heap.size+1,2,none⟩):=fcG H hu hD 8 rfl rfl rfl;have d0:w.cell? ⟨w0.heap.size+1,0,none⟩=_:=base.kb.cell 0;have d1:w.cell? ⟨w0.heap.size+1,1,none⟩=_:=base.kb.cell 1;have d2:w.cell? ⟨w0.heap.size+1,2,none⟩=_:=base.kb.cell 2;simp only[Ze,Zf]at d0 d1 d2;go_simp;exact fcV hK (fcP 9 rfl rfl fun _=>rfl)
 · intro Ls vs w Kk H hu hD hK;have base:ovrB w0 sa sb A L c A' L' c' B M d B' M' d' p q w:=fcG H hu hD 0 rfl rfl rfl;have f6:vs 6= .slice A L c:=fcG H hu hD 7 rfl rfl rfl;have f8:vs 8= .slice B' M' d':=fcG H hu hD 9 rfl rfl rfl;go_simp;refine(Z19 _ _ _ _ w base.v.1 base.v.2.2.2 k k HK.o.1.1 HK.o.2.1.2 (Nat.le_trans HK.o.2.2 (by omega))).mono ?_;rintro e w' ⟨v,rfl,hv, -,hb⟩;obtain⟨X,N,f,rfl⟩:=Z0g hv;exact⟨_,rfl,fcC hK (fun f hf _ h=>ovrK w0 sa sb A L c A' L' c' B M d B' M' d' p q f hf _ _ _ hb h) (fcP 10 rfl rfl fun _=>⟨X,N,f,rfl,hv⟩)⟩
 · intro Ls vs w Kk H hu hD hK;go_simp;exact fcV hK (fcP 11 rfl rfl fun _=>rfl)
 · intro Ls vs w Kk H hu hD hK;have base:ovrB w0 sa sb A L c A' L' c' B M d B' M' d' p q w:=fcG H hu hD 0 rfl rfl rfl;have f10:vs 10= .pointer (some ⟨w0.heap.size,2,none⟩):=fcG H hu hD 11 rfl rfl rfl;have d0:w.cell? ⟨w0.heap.size,0,none⟩=_:=base.ka.cell 0;have d1:w.cell? ⟨w0.heap.size,1,none⟩=_:=base.ka.cell 1;have d2:w.cell? ⟨w0.heap.size,2,none⟩=_:=base.ka.cell 2;simp only[Ze,Zf]at d0 d1 d2;go_simp;exact fcV hK (fcP 12 rfl rfl fun _=>rfl)
 · intro Ls vs w Kk H hu hD hK;go_simp;exact fcV hK (fcP 13 rfl rfl fun _=>rfl)
 · intro Ls vs w Kk H hu hD hK;have base:ovrB w0 sa sb A L c A' L' c' B M d B' M' d' p q w:=fcG H hu hD 0 rfl rfl rfl;have f12:vs 12= .pointer (some ⟨w0.heap.size+1,1,none⟩):=fcG H hu hD 13 rfl rfl rfl;have d0:w.cell? ⟨w0.heap.size+1,0,none⟩=_:=base.kb.cell 0;have d1:w.cell? ⟨w0.heap.size+1,1,none⟩=_:=base.kb.cell 1;have d2:w.cell? ⟨w0.heap.size+1,2,none⟩=_:=base.kb.cell 2;simp only[Ze,Zf]at d0 d1 d2;go_simp;exact fcV hK (fcP 14 rfl rfl fun _=>rfl)
 · intro Ls vs w Kk H hu hD hK;have base:ovrB w0 sa sb A L c A' L' c' B M d B' M' d' p q w:=fcG H hu hD 0 rfl rfl rfl;have f11:vs 11= .slice A' L' c':=fcG H hu hD 12 rfl rfl rfl;have f13:vs 13= .slice B M d:=fcG H hu hD 14 rfl rfl rfl;go_simp;refine(Z19 _ _ _ _ w base.v.2.1 base.v.2.2.1 k k HK.o.1.2 HK.o.2.1.1 (Nat.le_trans HK.o.2.2 (by omega))).mono ?_;rintro e w' ⟨v,rfl,hv, -,hb⟩;obtain⟨X,N,f,rfl⟩:=Z0g hv;exact⟨_,rfl,fcC hK (fun f hf _ h=>ovrK w0 sa sb A L c A' L' c' B M d B' M' d' p q f hf _ _ _ hb h) (fcP 15 rfl rfl fun _=>⟨X,N,f,rfl,hv⟩)⟩
 · intro Ls vs w Kk H hu hD hK;have f4:vs 4= .bool (sa !=sb):=fcG H hu hD 5 rfl rfl rfl;obtain⟨Xx9,Nx9,fx9,ex9,vx9⟩:∃X N f,vs 9= .slice X N f∧Z05 w (.slice X N f) (p.num.natAbs*q.den):=fcG H hu hD 10 rfl rfl rfl;obtain⟨Xx14,Nx14,fx14,ex14,vx14⟩:∃X N f,vs 14= .slice X N f∧Z05 w (.slice X N f) (p.den*q.num.natAbs):=fcG H hu hD 15 rfl rfl rfl;go_simp;refine(Z1m (sa !=sb) _ _ (p.num.natAbs*q.den) (p.den*q.num.natAbs) (p.num*q.den*(if q.num<0 then -1 else 1)) w vx9 vx14 HD.o (abs_over p q) HSG.o (k+k) (HK.o.1.1.mul HK.o.2.1.2) (HK.o.1.2.mul HK.o.2.1.1) (Nat.le_trans HK.o.2.2 (by omega))).mono ?_;rintro e w' ⟨v,rfl,hv,hb⟩;obtain⟨X,N,f,Y,O,t,rfl, -, -⟩:=Z0c hv;exact⟨_,rfl,fcC hK (fun f hf _ h=>ovrK w0 sa sb A L c A' L' c' B M d B' M' d' p q f hf _ _ _ hb h) (fcP 16 rfl rfl fun _=>⟨_,X,N,f,Y,O,t,rfl,hv⟩)⟩
 · intro Ls vs w Kk H hu hD hK;have base:ovrB w0 sa sb A L c A' L' c' B M d B' M' d' p q w:=fcG H hu hD 0 rfl rfl rfl;obtain⟨sx15,Xx15,Nx15,fx15,Yx15,Ox15,tx15,ex15,vx15⟩:∃s X N f Y O t,vs 15= .agg #[.bool s,.slice X N f,.slice Y O t]∧Z0d w (.agg #[.bool s,.slice X N f,.slice Y O t]) (mkRat (p.num*q.den*(if q.num<0 then -1 else 1)) (p.den*q.num.natAbs)):=fcG H hu hD 16 rfl rfl rfl;obtain⟨x0,x1,x2,c0,c1,c2,d0,d1,d2⟩:=base.nb.cells;go_simp;have ho:=Zbd w (w0.heap.size+1+1) (.bool sx15) (.slice Xx15 Nx15 fx15) (.slice Yx15 Ox15 tx15);refine hK.out _ _ (fcL (fun _ _ _ h=>h.store (Z0h _) (Z03 _ _ _) (Z03 _ _ _))<|fcL (fun _ _ _ h=>h)<|fcL (fun _ _ _ h=>h)<|fcL (fun _ _ _ h=>h)<|fcL (fun _ _ _ h=>h)<|fcL (fun _ _ _ h=>h)<|fcL (fun _ _ _ h=>h)<|fcL (fun _ _ _ h=>h)<|fcL (fun _ _ _ h=>h)<|fcL (fun _ _ _ h=>h)<|fcL (fun _ _ _ h=>(by obtain⟨X,N,f,h1,h2⟩:=h;exact⟨X,N,f,h1,base.nb.lim ho h2⟩))<|fcL (fun _ _ _ h=>h)<|fcL (fun _ _ _ h=>h)<|fcL (fun _ _ _ h=>h)<|fcL (fun _ _ _ h=>h)<|fcL (fun _ _ _ h=>(by obtain⟨X,N,f,h1,h2⟩:=h;exact⟨X,N,f,h1,base.nb.lim ho h2⟩))<|fcL (fun _ _ _ h=>(by obtain⟨s,X,N,f,Y,O,t,h1,h2⟩:=h;exact⟨s,X,N,f,Y,O,t,h1,base.nb.num ho h2⟩))<|fcL (fun hn=>absurd (show(16:Nat)∈([16]:List Nat)from by decide) hn)<|fcN _) ?_;exact fcP 17 rfl rfl fun _=>⟨sx15,Xx15,Nx15,fx15,Yx15,Ox15,tx15,base.nb.store,base.nb.num ho vx15⟩
 · intro vs w H;have base:ovrB w0 sa sb A L c A' L' c' B M d B' M' d' p q w:=fcE H 0 rfl rfl;have f0:vs 0= .pointer (some ⟨w0.heap.size,0,none⟩):=fcE H 1 rfl rfl;have f1:vs 1= .bool sa:=fcE H 2 rfl rfl;have f2:vs 2= .pointer (some ⟨w0.heap.size+1,0,none⟩):=fcE H 3 rfl rfl;have f3:vs 3= .bool sb:=fcE H 4 rfl rfl;have f4:vs 4= .bool (sa !=sb):=fcE H 5 rfl rfl;have f5:vs 5= .pointer (some ⟨w0.heap.size,1,none⟩):=fcE H 6 rfl rfl;have f6:vs 6= .slice A L c:=fcE H 7 rfl rfl;have f7:vs 7= .pointer (some ⟨w0.heap.size+1,2,none⟩):=fcE H 8 rfl rfl;have f8:vs 8= .slice B' M' d':=fcE H 9 rfl rfl;have f10:vs 10= .pointer (some ⟨w0.heap.size,2,none⟩):=fcE H 11 rfl rfl;have f11:vs 11= .slice A' L' c':=fcE H 12 rfl rfl;have f12:vs 12= .pointer (some ⟨w0.heap.size+1,1,none⟩):=fcE H 13 rfl rfl;have f13:vs 13= .slice B M d:=fcE H 14 rfl rfl;obtain⟨s,X,N,f,Y,O,t,hk,hv⟩:∃s X N f Y O t,Blk w (w0.heap.size+1+1) 85 [.bool s,.slice X N f,.slice Y O t]∧Z0d w (.agg #[.bool s,.slice X N f,.slice Y O t]) (mkRat (p.num*q.den*(if q.num<0 then -1 else 1)) (p.den*q.num.natAbs)):=fcE H 17 rfl rfl;clear H;simp only[Nat.zero_add,Nat.reduceAdd];have k2:=hk.cell 0;have k3:=hk.cell 1;have k4:=hk.cell 2;simp only[Ze,Zf]at k2 k3 k4;have HH:Hid (Z0d w (.agg #[.bool s,.slice X N f,.slice Y O t]) R∧Gq w0 w):=⟨by rw[←HR.o];exact hv,base.g⟩;clear hk hv base;simp only[f0,f1,f2,f3,f4,f5,f6,f7,f8,f10,f11,f12,f13];clear f0 f1 f2 f3 f4 f5 f6 f7 f8 f10 f11 f12 f13;generalize vs 9=z9,vs 14=z14,vs 15=z15;go_wp2_with fail;exact bodyPost_ret (v:= .agg #[.bool s,.slice X N f,.slice Y O t]) (by simp[results,Tryz.results89,go_sem,k2,k3,k4]) rfl ⟨_,rfl,HH.o.1,HH.o.2⟩
end Go.Proofs.YtcemlhbfemenpaaGreatDoor
namespace Go.Proofs.YtcemlhbfemenpaaGreatDoor
open Go.RowKit Go.Dw
def AdsI (w wr:World)(l m:List Nat)(A:Option Addr)(c i o:Nat)(p:List Nat):Prop:=
 (p.length=i∧Ds L4 p∧val L4 p+L4 ^ i*o=val L4 (l.take i)+val L4 (m.take i))∧wr.ownsRow w.heap.size 3 1 (.slice A p.length c) p.length (nc p)∧Below w.heap.size w wr
theorem sum_nm {l m p:List Nat}(hl:Nm L4 l)(hm:Nm L4 m)(hp:Ds L4 p)(hn:p.length=l.length∨p.length=m.length)(h:val L4 p=val L4 l+val L4 m):Nm L4 p:=by
 refine Nm.of_ge (by decide) hp fun h0=> ?_;rcases hn with e|e
 · have:=Z3q hl (by omega);rw[e];omega
 · have:=Z3q hm (by omega);rw[e];omega
theorem nm_snoc {p:List Nat}(hp:Ds L4 p):Nm L4 (p++ [1]):=by
 refine Nm.mk' (hp.app (by intro x hx;simp at hx;subst hx;decide)) fun h0=> ?_;simp
theorem addR_any (va vb:Value)(a b:Nat)(w:World)(h:Z05 w va a)(g:Z05 w vb b)(k:Nat)(hk:Lim k a)(gk:Lim k b)(hk2:k≤1000000000):
  Calls Tryz.prog 133 #[va,vb] w (LimF (a+b) w):=by
 obtain⟨A,c,l,rfl,hr,hn,rfl⟩:=h;obtain⟨B,d,m,rfl,gr,gn,rfl⟩:=g;have hL:=Lim.len4 hn hk;have gL:=Lim.len4 gn gk;have HNl:=Za hn;have HNm:=Za gn;have HRl:=Za hr.1;have HRm:=Za gr.1;have hw:L4=10000:=rfl;have HW:=Za hw;clear hr gr hn gn hk gk hw;obtain⟨ii,hii,hzi0,hzi1,hzi2⟩:=info_parts Zda;go_enter Tryz.func133,Tryz.ntmps133;go_wp2_with fail
 go_loopw [5,6,7] (fun ov cv iv wr=>∃(i o:Nat) (p:List Nat) (A5:Option Addr) (c5:Nat),(i≤l.length∨i≤m.length)∧iv= .int .i64 (i:Int)∧ov= .slice A5 p.length c5∧cv= .int .i64 (o:Int)∧o≤1∧Hid (AdsI w wr l m A5 c5 i o p)) (fun _ _ iv _=>l.length+m.length - (intOf iv).toNat)
 case atStart=>exact⟨0,0,[],none,0,.inl (Nat.zero_le _),rfl,rfl,rfl,by omega,⟨rfl,Ds.nil,by simp[val]⟩,World.ownsRow_nil _ _ _ _,Zm _ _⟩
 case round=>
  obtain⟨i,o,p,A5,c5,hi,rfl,rfl,rfl,ho,HI⟩:=hrel;have HO:=Za HI.o.2.1;have HB:=Za HI.o.2.2;have hpl:p.length≤3000000000:=by have:=HI.o.1.1;omega
  have hi2:i≤3000000000:=by omega
  by_cases hex:i<l.length∨i<m.length
  case neg=>
   have hd0:decide (i<l.length)=false:=decide_eq_false (by omega);have hd1:decide (i<m.length)=false:=decide_eq_false (by omega);have HV:Hid (val L4 p+L4 ^ i*o=val L4 l+val L4 m∧Ds L4 p∧p.length=i∧(p.length=l.length∨p.length=m.length)):=(by obtain⟨q1,q3,q4⟩:=HI.o.1;rw[Zl (by omega),Zl (by omega)]at q4;exact⟨q4,q3,q1,by omega⟩);have HFR:Hid (∀tl,FrB w.heap.size (.slice A5 tl c5)):=fun tl=>⟨fun b hb=>(HO.o.lt b (by cases A5<;>exact hb)).1,fun n c h=>by injection h with h1 h2 h3;subst h3;exact(Z13 HO.o).2.2 h1⟩;have hszr:=HB.o.size;rcases(by omega:o=0∨o=1)with h0|h0
   · subst h0;have HLM:Hid (Z05 wr (.slice A5 p.length c5) (val L4 l+val L4 m)):=(by obtain⟨q1,q2,q3,q4⟩:=HV.o;rw[Nat.mul_zero,Nat.add_zero]at q1;exact⟨A5,c5,p,rfl,RdN.of_own HO.o,sum_nm HNl.o HNm.o q2 q4 q1,q1⟩);clear hex hi HI;go_wp2_with fail;go_ret;exact⟨_,rfl,HLM.o,HFR.o _,HB.o⟩
   ·
    subst h0
    have HNX:Hid (∀(g8 cap8:Nat) (w8:World) (ob:Obj),w8.ownsRow w.heap.size 3 1 (.slice (some ⟨g8,0,none⟩) (p.length+1) cap8) (p.length+1) (nc p++ [.int .i64 (1:Int)])→(wr.alloc ob).grownBy w8 (Value.slice A5 p.length c5).ownBlock→
      Z05 w8 (.slice (some ⟨g8,0,none⟩) (p.length+1) cap8) (val L4 l+val L4 m)∧FrB w.heap.size (.slice (some ⟨g8,0,none⟩) (p.length+1) cap8)∧Below w.heap.size w w8):=fun g8 cap8 w8 ob h1 h2=>by
     obtain⟨q1,q2,q3,q4⟩:=HV.o;have e1:nc p++ [.int .i64 (1:Int)]=nc (p++ [1]):=(by rw[Z44];rfl);rw[e1]at h1;have e2:p.length+1=(p++ [1]).length:=(by simp);rw[e2]at h1⊢;refine⟨⟨_,cap8,p++ [1],rfl,RdN.of_own h1,nm_snoc q2, ?_⟩,⟨fun b hb=>(h1.lt b hb).1,fun n c h=>by injection h with h;cases h⟩, ?_⟩
     · rw[Z0v,q3];exact q1
     · exact Below.grown (HB.o.alloc HB.o.size ob) h2 (by simp;have:=HB.o.size;omega) (fun b hb=>(HO.o.lt b hb).1)
    clear hex hi HI;go_wp2_with (at_builtin;refine wpList_append_lies _ rfl _ _ 65 rfl w.heap.size 3 ii _ 1 8 Tryz.underlying65 hii hzi0 hzi1 hzi2 rfl (by decide) _ _ _ rfl (World.ownsRow.alloc HO.o _) ⟨wr.heap.size,0,none⟩ 1 1 [.int .i64 (1:Int)] (by rfl) (by rfl) (World.news_of_block (cs:= #[.int .i64 (1:Int)]) (t:=3) (fr:=(0,0)) (heap_alloc_new wr _)) (by simp[Value.oneCell']) (by decide) (by unfold maxLen;omega) (by omega) (by simp;omega) (wr.heap.size+1) (by simp) ?_;intro g8 cap8 w8 hown8 hgrow8 hat8 hlt8;have HF8:=Za (HNX.o _ _ _ _ hown8 hgrow8);clear hown8 hgrow8 hat8 hlt8);go_ret;exact⟨_,rfl,HF8.o⟩
  have x1:l.getD i 0<L4:=HNl.o.1.getD (by decide) i;have y1:m.getD i 0<L4:=HNm.o.1.getD (by decide) i;have i0:(0:Int)≤(i:Int):=by omega
  have hcy:=carry_le (B:=L4) (i:=i) (by decide) HNl.o.1 HNm.o.1 ho;have hst:=fun(hp:p.length=i) h=>Z6v (B:=L4) (a:=l) (b:=m) (p:=p) (i:=i) (c:=o) hp h;obtain⟨s,hs⟩:∃s,s=o+l.getD i 0+m.getD i 0:=⟨_,rfl⟩;rw[←hs]at hcy
  have HNX:Hid (∀(g8 cap8:Nat) (w8:World) (ob:Obj),w8.ownsRow w.heap.size 3 1 (.slice (some ⟨g8,0,none⟩) (p.length+1) cap8) (p.length+1) (nc p++ [.int .i64 ((s % L4:Nat):Int)])→(wr.alloc ob).grownBy w8 (Value.slice A5 p.length c5).ownBlock→
    AdsI w w8 l m (some ⟨g8,0,none⟩) cap8 (i+1) (s / L4) (p++ [s % L4])):=fun g8 cap8 w8 ob h1 h2=>by
   obtain⟨q1,q3,q4⟩:=HI.o.1;refine⟨⟨by simp[q1],q3.app (by intro x hx;simp at hx;subst hx;exact Nat.mod_lt _ (by decide)),by rw[hs];exact hst q1 q4⟩, ?_, ?_⟩
   · rw[Z44,Zj];exact h1
   · exact Below.grown (HB.o.alloc HB.o.size ob) h2 (by simp;have:=HB.o.size;omega) (fun b hb=>(HO.o.lt b hb).1)
  have hszr:=HB.o.size;have hm1:(s:Int).tmod 10000=((s % L4:Nat):Int):=tmod4 s;have hm2:(s:Int).tdiv 10000=((s / L4:Nat):Int):=tdiv4 s;rw[HW.o]at x1 y1 hcy;obtain⟨r,hr⟩:∃r,s % L4=r:=⟨_,rfl⟩;obtain⟨t,ht⟩:∃t,s / L4=t:=⟨_,rfl⟩;have hrl:r<10000:=by rw[←hr];exact Nat.mod_lt _ (by decide)
  have htl:t≤1:=by rw[←ht,HW.o];exact hcy.2
  rw[hr]at hm1 HNX;rw[ht]at hm2 HNX;have W5:IntKind.i64.wrap (r:Int)=(r:Int):=IntWalk.i64_in _ (by omega);have W6:IntKind.i64.wrap (t:Int)=(t:Int):=IntWalk.i64_in _ (by omega);have hs2:=hcy.1;clear hst hcy hr ht;by_cases hil:i<l.length
  ·
   have hd0:decide (i<l.length)=true:=(by simpa using hil);obtain⟨b1,o1,rfl,hb1,hc1⟩:=Z1v (HRl.o.below HB.o) (by omega);have d1:=hc1 i hil;have i1:(i:Int)<(l.length:Int):=(by omega);clear hc1;by_cases him:i<m.length
   ·
    have hd1:decide (i<m.length)=true:=(by simpa using him);obtain⟨b2,o2,rfl,hb2,hc2⟩:=Z1v (HRm.o.below HB.o) (by omega);have d2:=hc2 i him;have m1:(i:Int)<(m.length:Int):=(by omega);clear hc2 HI;generalize l.getD i 0=x at*;generalize m.getD i 0=y at*;have W1:IntKind.i64.wrap ((o:Int)+(x:Int))=(o:Int)+(x:Int):=IntWalk.i64_in _ (by omega);have W2:IntKind.i64.wrap ((o:Int)+(x:Int)+(y:Int))=(s:Int):=(by rw[show(o:Int)+(x:Int)+(y:Int)=(s:Int) by omega];exact IntWalk.i64_in _ (by omega));clear hs hex;go_wp2_with (at_builtin;refine wpList_append_lies _ rfl _ _ 65 rfl w.heap.size 3 ii _ 1 8 Tryz.underlying65 hii hzi0 hzi1 hzi2 rfl (by decide) _ _ _ rfl (World.ownsRow.alloc HO.o _) ⟨wr.heap.size,0,none⟩ 1 1 [.int .i64 (r:Int)] (by rfl) (by rfl) (World.news_of_block (cs:= #[.int .i64 (r:Int)]) (t:=3) (fr:=(0,0)) (heap_alloc_new wr _)) (by simp[Value.oneCell']) (by decide) (by unfold maxLen;omega) (by omega) (by simp;omega) (wr.heap.size+1) (by simp) ?_;intro g8 cap8 w8 hown8 hgrow8 hat8 hlt8;have HF8:=Za (HNX.o _ _ _ _ hown8 hgrow8);clear hown8 hgrow8 hat8 hlt8);go_roundw
    case rel=>exact⟨i+1,t,p++ [r],_,_,by omega,by go_num,by rw[Zj];rfl,rfl,htl,HF8⟩
    case measure=>simp[intOf];omega
   ·
    have hd1:decide (i<m.length)=false:=(by simpa using him);have hy:m.getD i 0=0:=(by rw[Zg,List.getElem?_eq_none (by omega)];rfl);rw[hy]at hs;clear HI y1 hy;generalize l.getD i 0=x at*;have W1:IntKind.i64.wrap ((o:Int)+(x:Int))=(s:Int):=(by rw[show(o:Int)+(x:Int)=(s:Int) by omega];exact IntWalk.i64_in _ (by omega));clear hs hex;go_wp2_with (at_builtin;refine wpList_append_lies _ rfl _ _ 65 rfl w.heap.size 3 ii _ 1 8 Tryz.underlying65 hii hzi0 hzi1 hzi2 rfl (by decide) _ _ _ rfl (World.ownsRow.alloc HO.o _) ⟨wr.heap.size,0,none⟩ 1 1 [.int .i64 (r:Int)] (by rfl) (by rfl) (World.news_of_block (cs:= #[.int .i64 (r:Int)]) (t:=3) (fr:=(0,0)) (heap_alloc_new wr _)) (by simp[Value.oneCell']) (by decide) (by unfold maxLen;omega) (by omega) (by simp;omega) (wr.heap.size+1) (by simp) ?_;intro g8 cap8 w8 hown8 hgrow8 hat8 hlt8;have HF8:=Za (HNX.o _ _ _ _ hown8 hgrow8);clear hown8 hgrow8 hat8 hlt8);go_roundw
    case rel=>exact⟨i+1,t,p++ [r],_,_,by omega,by go_num,by rw[Zj];rfl,rfl,htl,HF8⟩
    case measure=>simp[intOf];omega
  ·
   have hd0:decide (i<l.length)=false:=(by simpa using hil);have him:i<m.length:=(by omega);have hd1:decide (i<m.length)=true:=(by simpa using him);have hx:l.getD i 0=0:=(by rw[Zg,List.getElem?_eq_none (by omega)];rfl);rw[hx]at hs;obtain⟨b2,o2,rfl,hb2,hc2⟩:=Z1v (HRm.o.below HB.o) (by omega);have d2:=hc2 i him;have m1:(i:Int)<(m.length:Int):=(by omega);clear hc2 HI x1 hx;generalize m.getD i 0=y at*;have W2:IntKind.i64.wrap ((o:Int)+(y:Int))=(s:Int):=(by rw[show(o:Int)+(y:Int)=(s:Int) by omega];exact IntWalk.i64_in _ (by omega));clear hs hex;go_wp2_with (at_builtin;refine wpList_append_lies _ rfl _ _ 65 rfl w.heap.size 3 ii _ 1 8 Tryz.underlying65 hii hzi0 hzi1 hzi2 rfl (by decide) _ _ _ rfl (World.ownsRow.alloc HO.o _) ⟨wr.heap.size,0,none⟩ 1 1 [.int .i64 (r:Int)] (by rfl) (by rfl) (World.news_of_block (cs:= #[.int .i64 (r:Int)]) (t:=3) (fr:=(0,0)) (heap_alloc_new wr _)) (by simp[Value.oneCell']) (by decide) (by unfold maxLen;omega) (by omega) (by simp;omega) (wr.heap.size+1) (by simp) ?_;intro g8 cap8 w8 hown8 hgrow8 hat8 hlt8;have HF8:=Za (HNX.o _ _ _ _ hown8 hgrow8);clear hown8 hgrow8 hat8 hlt8);go_roundw
   case rel=>exact⟨i+1,t,p++ [r],_,_,by omega,by go_num,by rw[Zj];rfl,rfl,htl,HF8⟩
   case measure=>simp[intOf];omega
end Go.Proofs.YtcemlhbfemenpaaGreatDoor
namespace Go.Proofs.YtcemlhbfemenpaaGreatDoor
open Go.RowKit Go.Dw
open Go.Dwo (fcL fcN fcK fcZ fcG fcE fcD fcV fcC fcP Z00)
attribute [local go_sem ↓] Go.wp_at_zero Go.wp_at_succ
attribute [local go_sem] Go.Dwo.Oper.tame Go.Dwo.actOf List.getD_cons_zero List.getD_cons_succ
theorem Z8t (p q:Rat):mkRat (p.num*q.den+q.num*p.den) (p.den*q.den)=p+q:=by
 have h1:mkRat p.num p.den+mkRat q.num q.den=mkRat (p.num*q.den+q.num*p.den) (p.den*q.den):=Rat.mkRat_add_mkRat _ _ p.den_nz q.den_nz;rw[←h1,Z1e,Z1e]
theorem Zfj {p q:Rat}{s:Bool}(ha:decide (p.num<0)=s)(hb:decide (q.num<0)=s):
  (p.num*q.den+q.num*p.den).natAbs=p.num.natAbs*q.den+q.num.natAbs*p.den∧(0<p.num.natAbs*q.den+q.num.natAbs*p.den→s=decide (p.num*q.den+q.num*p.den<0)):=by
 have e1:((p.num.natAbs*q.den:Nat):Int)=(p.num.natAbs:Int)*q.den:=Int.natCast_mul _ _;have e2:((q.num.natAbs*p.den:Nat):Int)=(q.num.natAbs:Int)*p.den:=Int.natCast_mul _ _;cases s
 · have h1:=of_decide_eq_false ha;have h2:=of_decide_eq_false hb;have g1:(p.num.natAbs:Int)=p.num:=(by omega);have g2:(q.num.natAbs:Int)=q.num:=(by omega);rw[g1]at e1;rw[g2]at e2;refine⟨by omega,fun h=>(decide_eq_false (by omega)).symm⟩
 · have h1:=of_decide_eq_true ha;have h2:=of_decide_eq_true hb;have g1:(p.num.natAbs:Int)= -p.num:=(by omega);have g2:(q.num.natAbs:Int)= -q.num:=(by omega);rw[g1,Int.neg_mul]at e1;rw[g2,Int.neg_mul]at e2;refine⟨by omega,fun h=>(decide_eq_true (by omega)).symm⟩
theorem Zfk {p q:Rat}{s r:Bool}(ha:decide (p.num<0)=s)(hb:decide (q.num<0)=r)(hne:s≠r):
  (q.num.natAbs*p.den≤p.num.natAbs*q.den→(p.num*q.den+q.num*p.den).natAbs=p.num.natAbs*q.den - q.num.natAbs*p.den∧(0<p.num.natAbs*q.den - q.num.natAbs*p.den→s=decide (p.num*q.den+q.num*p.den<0)))∧
  (p.num.natAbs*q.den<q.num.natAbs*p.den→(p.num*q.den+q.num*p.den).natAbs=q.num.natAbs*p.den - p.num.natAbs*q.den∧r=decide (p.num*q.den+q.num*p.den<0)):=by
 have e1:((p.num.natAbs*q.den:Nat):Int)=(p.num.natAbs:Int)*q.den:=Int.natCast_mul _ _;have e2:((q.num.natAbs*p.den:Nat):Int)=(q.num.natAbs:Int)*p.den:=Int.natCast_mul _ _;cases s<;>cases r
 · exact absurd rfl hne
 · have h1:=of_decide_eq_false ha;have h2:=of_decide_eq_true hb;have g1:(p.num.natAbs:Int)=p.num:=(by omega);have g2:(q.num.natAbs:Int)= -q.num:=(by omega);rw[g1]at e1;rw[g2,Int.neg_mul]at e2;exact⟨fun h=>⟨by omega,fun h0=>(decide_eq_false (by omega)).symm⟩,fun h=>⟨by omega,(decide_eq_true (by omega)).symm⟩⟩
 · have h1:=of_decide_eq_true ha;have h2:=of_decide_eq_false hb;have g1:(p.num.natAbs:Int)= -p.num:=(by omega);have g2:(q.num.natAbs:Int)=q.num:=(by omega);rw[g1,Int.neg_mul]at e1;rw[g2]at e2;exact⟨fun h=>⟨by omega,fun h0=>(decide_eq_true (by omega)).symm⟩,fun h=>⟨by omega,(decide_eq_false (by omega)).symm⟩⟩
 · exact absurd rfl hne
structure pluB (w0:World)(sa sb:Bool)(A:Option Addr)(L c:Nat)(A':Option Addr)(L' c':Nat)(B:Option Addr)(M d:Nat)(B':Option Addr)(M' d':Nat)(p q:Rat)(W:World):Prop where
 g:Gq w0 W
 nb:NB 85 W (w0.heap.size+1+1)
 ka:Blk W w0.heap.size 85 [.bool sa,.slice A L c,.slice A' L' c']
 kb:Blk W (w0.heap.size+1) 85 [.bool sb,.slice B M d,.slice B' M' d']
 v:Z05 W (.slice A L c) p.num.natAbs∧Z05 W (.slice A' L' c') p.den∧Z05 W (.slice B M d) q.num.natAbs∧Z05 W (.slice B' M' d') q.den
theorem pluB.gq {w0:World}{sa sb:Bool}{A:Option Addr}{L c:Nat}{A':Option Addr}{L' c':Nat}{B:Option Addr}{M d:Nat}{B':Option Addr}{M' d':Nat}{p q:Rat}{w w':World}(h:pluB w0 sa sb A L c A' L' c' B M d B' M' d' p q w)(hg:Gq w w'):pluB w0 sa sb A L c A' L' c' B M d B' M' d' p q w':=
 ⟨h.g.trans hg,h.nb.gq hg,Z0b h.ka hg,Z0b h.kb hg,h.v.1.below hg,h.v.2.1.below hg,h.v.2.2.1.below hg,h.v.2.2.2.below hg⟩
theorem pluB.store {w0:World}{sa sb:Bool}{A:Option Addr}{L c:Nat}{A':Option Addr}{L' c':Nat}{B:Option Addr}{M d:Nat}{B':Option Addr}{M' d':Nat}{p q:Rat}{w:World}(h:pluB w0 sa sb A L c A' L' c' B M d B' M' d' p q w){x y z:Value}(hx:NoI x)(hy:NoI y)(hz:NoI z):
  pluB w0 sa sb A L c A' L' c' B M d B' M' d' p q (((w.setCell ⟨w0.heap.size+1+1,0,none⟩ x).setCell ⟨w0.heap.size+1+1,1,none⟩ y).setCell ⟨w0.heap.size+1+1,2,none⟩ z):=by
 have ho:=Zbd w (w0.heap.size+1+1) x y z;exact⟨Z24 h.g (by omega) _ _ _,h.nb.stored hx hy hz,ho.blk h.ka (by omega),ho.blk h.kb (by omega),h.nb.lim ho h.v.1,h.nb.lim ho h.v.2.1,h.nb.lim ho h.v.2.2.1,h.nb.lim ho h.v.2.2.2⟩
def pl1F (w0:World)(sa sb:Bool)(A:Option Addr)(L c:Nat)(A':Option Addr)(L' c':Nat)(B:Option Addr)(M d:Nat)(B':Option Addr)(M' d':Nat)(p q:Rat):List Go.Dwo.Fact:= [
 ⟨[],[],fun _ W=>pluB w0 sa sb A L c A' L' c' B M d B' M' d' p q W⟩,
 ⟨[0],[],fun vs _=>vs 0= .pointer (some ⟨w0.heap.size,1,none⟩)⟩,
 ⟨[1],[],fun vs _=>vs 1= .slice A L c⟩,
 ⟨[2],[],fun vs _=>vs 2= .pointer (some ⟨w0.heap.size+1,2,none⟩)⟩,
 ⟨[3],[],fun vs _=>vs 3= .slice B' M' d'⟩,
 ⟨[4],[],fun vs W=>∃X N f,vs 4= .slice X N f∧Z05 W (.slice X N f) (p.num.natAbs*q.den)⟩,
 ⟨[5],[],fun vs _=>vs 5= .pointer (some ⟨w0.heap.size+1,1,none⟩)⟩,
 ⟨[6],[],fun vs _=>vs 6= .slice B M d⟩,
 ⟨[7],[],fun vs _=>vs 7= .pointer (some ⟨w0.heap.size,2,none⟩)⟩,
 ⟨[8],[],fun vs _=>vs 8= .slice A' L' c'⟩,
 ⟨[9],[],fun vs W=>∃X N f,vs 9= .slice X N f∧Z05 W (.slice X N f) (q.num.natAbs*p.den)⟩,
 ⟨[10],[],fun vs _=>vs 10= .pointer (some ⟨w0.heap.size,2,none⟩)⟩,
 ⟨[11],[],fun vs _=>vs 11= .slice A' L' c'⟩,
 ⟨[12],[],fun vs _=>vs 12= .pointer (some ⟨w0.heap.size+1,2,none⟩)⟩,
 ⟨[13],[],fun vs _=>vs 13= .slice B' M' d'⟩,
 ⟨[14],[],fun vs W=>∃X N f,vs 14= .slice X N f∧Z05 W (.slice X N f) (p.den*q.den)⟩,
 ⟨[4,15],[],fun vs _=>vs 15=vs 4⟩,
 ⟨[9,16],[],fun vs _=>vs 16=vs 9⟩,
 ⟨[14,17],[],fun vs _=>vs 17=vs 14⟩]
theorem pl1K (w0:World)(sa sb:Bool)(A:Option Addr)(L c:Nat)(A':Option Addr)(L' c':Nat)(B:Option Addr)(M d:Nat)(B':Option Addr)(M' d':Nat)(p q:Rat):∀f∈pl1F w0 sa sb A L c A' L' c' B M d B' M' d' p q,∀vs w w',Gq w w'→f.says vs w→f.says vs w':=
 fcL (fun _ _ _ hg h=>h.gq hg)<|fcL (fun _ _ _ _ h=>h)<|fcL (fun _ _ _ _ h=>h)<|fcL (fun _ _ _ _ h=>h)<|fcL (fun _ _ _ _ h=>h)<|fcL (fun _ _ _ hg h=>(by obtain⟨X,N,f,h1,h2⟩:=h;exact⟨X,N,f,h1,h2.below hg⟩))<|fcL (fun _ _ _ _ h=>h)<|fcL (fun _ _ _ _ h=>h)<|fcL (fun _ _ _ _ h=>h)<|fcL (fun _ _ _ _ h=>h)<|fcL (fun _ _ _ hg h=>(by obtain⟨X,N,f,h1,h2⟩:=h;exact⟨X,N,f,h1,h2.below hg⟩))<|fcL (fun _ _ _ _ h=>h)<|fcL (fun _ _ _ _ h=>h)<|fcL (fun _ _ _ _ h=>h)<|fcL (fun _ _ _ _ h=>h)<|fcL (fun _ _ _ hg h=>(by obtain⟨X,N,f,h1,h2⟩:=h;exact⟨X,N,f,h1,h2.below hg⟩))<|fcL (fun _ _ _ _ h=>h)<|fcL (fun _ _ _ _ h=>h)<|fcL (fun _ _ _ _ h=>h)<|fcN _
def pl3F (w0:World)(sa sb:Bool)(A:Option Addr)(L c:Nat)(A':Option Addr)(L' c':Nat)(B:Option Addr)(M d:Nat)(B':Option Addr)(M' d':Nat)(p q:Rat)(X1:Option Addr)(N1 j1:Nat)(Y1:Option Addr)(O1 j2:Nat)(Z1:Option Addr)(P1 j3:Nat):List Go.Dwo.Fact:= [
 ⟨[],[],fun _ W=>pluB w0 sa sb A L c A' L' c' B M d B' M' d' p q W∧Z05 W (.slice X1 N1 j1) (p.num.natAbs*q.den)∧Z05 W (.slice Y1 O1 j2) (q.num.natAbs*p.den)∧Z05 W (.slice Z1 P1 j3) (p.den*q.den)⟩,
 ⟨[0],[],fun vs _=>vs 0= .pointer (some ⟨w0.heap.size,0,none⟩)⟩,
 ⟨[1],[],fun vs _=>vs 1= .bool sa⟩,
 ⟨[2],[],fun vs _=>vs 2= .slice X1 N1 j1⟩,
 ⟨[3],[],fun vs _=>vs 3= .slice Y1 O1 j2⟩,
 ⟨[4],[],fun vs W=>∃X N f,vs 4= .slice X N f∧Z05 W (.slice X N f) (p.num.natAbs*q.den+q.num.natAbs*p.den)⟩,
 ⟨[5],[],fun vs _=>vs 5= .slice Z1 P1 j3⟩,
 ⟨[6],[],fun vs W=>∃s X N f Y O t,vs 6= .agg #[.bool s,.slice X N f,.slice Y O t]∧Z0d W (.agg #[.bool s,.slice X N f,.slice Y O t]) (mkRat (p.num*q.den+q.num*p.den) (p.den*q.den))⟩,
 ⟨[7],[],fun _ W=>∃s X N f Y O t,Blk W (w0.heap.size+1+1) 85 [.bool s,.slice X N f,.slice Y O t]∧Z0d W (.agg #[.bool s,.slice X N f,.slice Y O t]) (mkRat (p.num*q.den+q.num*p.den) (p.den*q.den))⟩]
theorem pl3K (w0:World)(sa sb:Bool)(A:Option Addr)(L c:Nat)(A':Option Addr)(L' c':Nat)(B:Option Addr)(M d:Nat)(B':Option Addr)(M' d':Nat)(p q:Rat)(X1:Option Addr)(N1 j1:Nat)(Y1:Option Addr)(O1 j2:Nat)(Z1:Option Addr)(P1 j3:Nat):∀f∈pl3F w0 sa sb A L c A' L' c' B M d B' M' d' p q X1 N1 j1 Y1 O1 j2 Z1 P1 j3,∀vs w w',Gq w w'→f.says vs w→f.says vs w':=
 fcL (fun _ _ _ hg h=>⟨h.1.gq hg,h.2.1.below hg,h.2.2.1.below hg,h.2.2.2.below hg⟩)<|fcL (fun _ _ _ _ h=>h)<|fcL (fun _ _ _ _ h=>h)<|fcL (fun _ _ _ _ h=>h)<|fcL (fun _ _ _ _ h=>h)<|fcL (fun _ _ _ hg h=>(by obtain⟨X,N,f,h1,h2⟩:=h;exact⟨X,N,f,h1,h2.below hg⟩))<|fcL (fun _ _ _ _ h=>h)<|fcL (fun _ _ _ hg h=>(by obtain⟨s,X,N,f,Y,O,t,h1,h2⟩:=h;exact⟨s,X,N,f,Y,O,t,h1,Z1f.gq h2 hg⟩))<|fcL (fun _ _ _ hg h=>(by obtain⟨s,X,N,f,Y,O,t,h1,h2⟩:=h;exact⟨s,X,N,f,Y,O,t,Z0b h1 hg,Z1f.gq h2 hg⟩))<|fcN _
def pl5F (w0:World)(sa sb:Bool)(A:Option Addr)(L c:Nat)(A':Option Addr)(L' c':Nat)(B:Option Addr)(M d:Nat)(B':Option Addr)(M' d':Nat)(p q:Rat)(X1:Option Addr)(N1 j1:Nat)(Y1:Option Addr)(O1 j2:Nat)(Z1:Option Addr)(P1 j3:Nat):List Go.Dwo.Fact:= [
 ⟨[],[],fun _ W=>pluB w0 sa sb A L c A' L' c' B M d B' M' d' p q W∧Z05 W (.slice X1 N1 j1) (p.num.natAbs*q.den)∧Z05 W (.slice Y1 O1 j2) (q.num.natAbs*p.den)∧Z05 W (.slice Z1 P1 j3) (p.den*q.den)⟩,
 ⟨[0],[],fun vs _=>vs 0= .pointer (some ⟨w0.heap.size,0,none⟩)⟩,
 ⟨[1],[],fun vs _=>vs 1= .bool sa⟩,
 ⟨[2],[],fun vs _=>vs 2= .slice X1 N1 j1⟩,
 ⟨[3],[],fun vs _=>vs 3= .slice Y1 O1 j2⟩,
 ⟨[4],[],fun vs W=>∃X N f,vs 4= .slice X N f∧Z05 W (.slice X N f) (p.num.natAbs*q.den - q.num.natAbs*p.den)⟩,
 ⟨[5],[],fun vs _=>vs 5= .slice Z1 P1 j3⟩,
 ⟨[6],[],fun vs W=>∃s X N f Y O t,vs 6= .agg #[.bool s,.slice X N f,.slice Y O t]∧Z0d W (.agg #[.bool s,.slice X N f,.slice Y O t]) (mkRat (p.num*q.den+q.num*p.den) (p.den*q.den))⟩,
 ⟨[7],[],fun _ W=>∃s X N f Y O t,Blk W (w0.heap.size+1+1) 85 [.bool s,.slice X N f,.slice Y O t]∧Z0d W (.agg #[.bool s,.slice X N f,.slice Y O t]) (mkRat (p.num*q.den+q.num*p.den) (p.den*q.den))⟩]
theorem pl5K (w0:World)(sa sb:Bool)(A:Option Addr)(L c:Nat)(A':Option Addr)(L' c':Nat)(B:Option Addr)(M d:Nat)(B':Option Addr)(M' d':Nat)(p q:Rat)(X1:Option Addr)(N1 j1:Nat)(Y1:Option Addr)(O1 j2:Nat)(Z1:Option Addr)(P1 j3:Nat):∀f∈pl5F w0 sa sb A L c A' L' c' B M d B' M' d' p q X1 N1 j1 Y1 O1 j2 Z1 P1 j3,∀vs w w',Gq w w'→f.says vs w→f.says vs w':=
 fcL (fun _ _ _ hg h=>⟨h.1.gq hg,h.2.1.below hg,h.2.2.1.below hg,h.2.2.2.below hg⟩)<|fcL (fun _ _ _ _ h=>h)<|fcL (fun _ _ _ _ h=>h)<|fcL (fun _ _ _ _ h=>h)<|fcL (fun _ _ _ _ h=>h)<|fcL (fun _ _ _ hg h=>(by obtain⟨X,N,f,h1,h2⟩:=h;exact⟨X,N,f,h1,h2.below hg⟩))<|fcL (fun _ _ _ _ h=>h)<|fcL (fun _ _ _ hg h=>(by obtain⟨s,X,N,f,Y,O,t,h1,h2⟩:=h;exact⟨s,X,N,f,Y,O,t,h1,Z1f.gq h2 hg⟩))<|fcL (fun _ _ _ hg h=>(by obtain⟨s,X,N,f,Y,O,t,h1,h2⟩:=h;exact⟨s,X,N,f,Y,O,t,Z0b h1 hg,Z1f.gq h2 hg⟩))<|fcN _
def pl6F (w0:World)(sa sb:Bool)(A:Option Addr)(L c:Nat)(A':Option Addr)(L' c':Nat)(B:Option Addr)(M d:Nat)(B':Option Addr)(M' d':Nat)(p q:Rat)(X1:Option Addr)(N1 j1:Nat)(Y1:Option Addr)(O1 j2:Nat)(Z1:Option Addr)(P1 j3:Nat):List Go.Dwo.Fact:= [
 ⟨[],[],fun _ W=>pluB w0 sa sb A L c A' L' c' B M d B' M' d' p q W∧Z05 W (.slice X1 N1 j1) (p.num.natAbs*q.den)∧Z05 W (.slice Y1 O1 j2) (q.num.natAbs*p.den)∧Z05 W (.slice Z1 P1 j3) (p.den*q.den)⟩,
 ⟨[0],[],fun vs _=>vs 0= .pointer (some ⟨w0.heap.size+1,0,none⟩)⟩,
 ⟨[1],[],fun vs _=>vs 1= .bool sb⟩,
 ⟨[2],[],fun vs _=>vs 2= .slice Y1 O1 j2⟩,
 ⟨[3],[],fun vs _=>vs 3= .slice X1 N1 j1⟩,
 ⟨[4],[],fun vs W=>∃X N f,vs 4= .slice X N f∧Z05 W (.slice X N f) (q.num.natAbs*p.den - p.num.natAbs*q.den)⟩,
 ⟨[5],[],fun vs _=>vs 5= .slice Z1 P1 j3⟩,
 ⟨[6],[],fun vs W=>∃s X N f Y O t,vs 6= .agg #[.bool s,.slice X N f,.slice Y O t]∧Z0d W (.agg #[.bool s,.slice X N f,.slice Y O t]) (mkRat (p.num*q.den+q.num*p.den) (p.den*q.den))⟩,
 ⟨[7],[],fun _ W=>∃s X N f Y O t,Blk W (w0.heap.size+1+1) 85 [.bool s,.slice X N f,.slice Y O t]∧Z0d W (.agg #[.bool s,.slice X N f,.slice Y O t]) (mkRat (p.num*q.den+q.num*p.den) (p.den*q.den))⟩]
theorem pl6K (w0:World)(sa sb:Bool)(A:Option Addr)(L c:Nat)(A':Option Addr)(L' c':Nat)(B:Option Addr)(M d:Nat)(B':Option Addr)(M' d':Nat)(p q:Rat)(X1:Option Addr)(N1 j1:Nat)(Y1:Option Addr)(O1 j2:Nat)(Z1:Option Addr)(P1 j3:Nat):∀f∈pl6F w0 sa sb A L c A' L' c' B M d B' M' d' p q X1 N1 j1 Y1 O1 j2 Z1 P1 j3,∀vs w w',Gq w w'→f.says vs w→f.says vs w':=
 fcL (fun _ _ _ hg h=>⟨h.1.gq hg,h.2.1.below hg,h.2.2.1.below hg,h.2.2.2.below hg⟩)<|fcL (fun _ _ _ _ h=>h)<|fcL (fun _ _ _ _ h=>h)<|fcL (fun _ _ _ _ h=>h)<|fcL (fun _ _ _ _ h=>h)<|fcL (fun _ _ _ hg h=>(by obtain⟨X,N,f,h1,h2⟩:=h;exact⟨X,N,f,h1,h2.below hg⟩))<|fcL (fun _ _ _ _ h=>h)<|fcL (fun _ _ _ hg h=>(by obtain⟨s,X,N,f,Y,O,t,h1,h2⟩:=h;exact⟨s,X,N,f,Y,O,t,h1,Z1f.gq h2 hg⟩))<|fcL (fun _ _ _ hg h=>(by obtain⟨s,X,N,f,Y,O,t,h1,h2⟩:=h;exact⟨s,X,N,f,Y,O,t,Z0b h1 hg,Z1f.gq h2 hg⟩))<|fcN _
theorem Z3g (va vb:Value)(p q:Rat)(w:World)(h:Z0d w va p)(g:Z0d w vb q)(k:Nat)(hk:Z0i k p)(gk:Z0i k q)(hk2:k+k≤1000000):
  Calls Tryz.prog 91 #[va,vb] w (Z20 (p+q) w):=by
 obtain⟨R,hR⟩:∃R,p+q=R:=⟨_,rfl⟩;rw[hR];have HR:Hid (mkRat (p.num*q.den+q.num*p.den) (p.den*q.den)=R):=by show _=_;rw[←hR];exact Z8t p q
 clear hR;obtain⟨sa,hsa⟩:∃s,decide (p.num<0)=s:=⟨_,rfl⟩;obtain⟨sb,hsb⟩:∃s,decide (q.num<0)=s:=⟨_,rfl⟩;have HSA:=Za hsa;have HSB:=Za hsb;unfold Z0d at h g;rw[hsa]at h;rw[hsb]at g;clear hsa hsb;obtain⟨A,L,c,A',L',c',rfl,hu,hx⟩:=Z0c h;obtain⟨B,M,d,B',M',d',rfl,gu,gx⟩:=Z0c g;obtain⟨wa,hwa⟩:∃wa,wa=w.alloc (.cells #[.bool sa,.slice A L c,.slice A' L' c'] 85):=⟨_,rfl⟩;obtain⟨wb,hwb⟩:∃wb,wb=wa.alloc (.cells #[.bool sb,.slice B M d,.slice B' M' d'] 85):=⟨_,rfl⟩;obtain⟨w1,hw1⟩:∃w1,w1=wb.alloc (.cells #[.bool false,.slice none 0 0,.slice none 0 0] 85):=⟨_,rfl⟩;have z1:wa.heap.size=w.heap.size+1:=by rw[hwa];simp
 have z2:wb.heap.size=w.heap.size+1+1:=by rw[hwb];simp[z1]
 have ba:Gq w wa:=by rw[hwa];exact(Gq.refl _).alloc _
 have bb:Gq wa wb:=by rw[hwb];exact(Gq.refl _).alloc _
 have bc:Gq wb w1:=by rw[hw1];exact(Gq.refl _).alloc _
 have HBASE:Hid (pluB w sa sb A L c A' L' c' B M d B' M' d' p q w1.drew):=by
  have hd:Gq w1 w1.drew:=(Gq.refl _).drew;refine⟨(ba.trans (bb.trans bc)).trans hd, ?_, ?_, ?_, ?_⟩
  · rw[←z2];rw[hw1]at hd⊢;exact NB.gq (NB.new _ _ (Z0h _) (Z03 _ _ _) (Z03 _ _ _)) hd
  · refine Z0b (?_:Blk wa w.heap.size _ _) (bb.trans (bc.trans hd));rw[hwa];exact Blk.new w _ _
  · refine Z0b (?_:Blk wb (w.heap.size+1) _ _) (bc.trans hd);rw[hwb,←z1];exact Blk.new wa _ _
  · have hg:=(ba.trans (bb.trans bc)).trans hd;exact⟨hu.below hg,hx.below hg,gu.below hg,gx.below hg⟩
 have HK:=Za (And.intro hk (And.intro gk (And.intro hk2 hk2)));have HLA:Hid (Lim (k+k) (p.num.natAbs*q.den)):=hk.1.mul gk.2;have HLB:Hid (Lim (k+k) (q.num.natAbs*p.den)):=gk.1.mul hk.2;have HLD:Hid (Lim (k+k+1) (p.den*q.den)):=(hk.2.mul gk.2).mono (by omega);have HLS:Hid (Lim (k+k+1) (p.num.natAbs*q.den+q.num.natAbs*p.den)):=(HLA.o.add HLB.o).mono (by omega);rw[hwb,hwa]at hw1;have HW1:=Za hw1;clear hw1 hwa hwb h g hu hx gu gx hk gk hk2 ba bb bc z1 z2;have HD:Hid (0<p.den*q.den):=Nat.mul_pos p.den_pos q.den_pos;obtain⟨w0,hw0⟩:∃w0,w0=w:=⟨_,rfl⟩;subst hw0;go_enter Tryz.func91,Tryz.ntmps91;go_upto_region 1 with(fail);rw[←HW1.o]
 go_cut [5,6,7] (fun v5 v6 v7 wx=>∃X1 N1 j1 Y1 O1 j2 Z1 P1 j3,v5= .slice X1 N1 j1∧v6= .slice Y1 O1 j2∧v7= .slice Z1 P1 j3∧Hid (pluB w0 sa sb A L c A' L' c' B M d B' M' d' p q wx∧Z05 wx (.slice X1 N1 j1) (p.num.natAbs*q.den)∧Z05 wx (.slice Y1 O1 j2) (q.num.natAbs*p.den)∧Z05 wx (.slice Z1 P1 j3) (p.den*q.den)))
 case first=>
  refine Z00 _ (by kernel_rfl) [[],[0],[],[2],[0,1,2,3],[],[5],[],[7],[5,6,7,8],[],[10],[],[12],[10,11,12,13],[0,1,2,3,4],[5,6,7,8,9],[10,11,12,13,14]] (by kernel_rfl) (by kernel_rfl) [some 8,some 9,some 10,some 11,some 12,some 13,some 14,some 15,some 16,some 17,some 18,some 19,some 20,some 21,some 22,some 5,some 6,some 7] (by kernel_rfl) (fun vs=>by simp only[Go.Dwo.putA,Go.Dwo.putL,if_true,Act.put,Zb,Zc,Zd];rfl) (pl1F w0 sa sb A L c A' L' c' B M d B' M' d' p q) (by kernel_rfl) ?_ ⟨?_, ?_, ?_, ?_, ?_, ?_, ?_, ?_, ?_, ?_, ?_, ?_, ?_, ?_, ?_, ?_, ?_, ?_,trivial⟩ ?_
  · exact fcZ [0] rfl<|fcL (HBASE.o)<|fcN _
  · intro Ls vs w Kk H hu hD hK;go_simp;exact fcV hK (fcP 1 rfl rfl fun _=>rfl)
  · intro Ls vs w Kk H hu hD hK;have base:pluB w0 sa sb A L c A' L' c' B M d B' M' d' p q w:=fcG H hu hD 0 rfl rfl rfl;have f0:vs 0= .pointer (some ⟨w0.heap.size,1,none⟩):=fcG H hu hD 1 rfl rfl rfl;have d0:w.cell? ⟨w0.heap.size,0,none⟩=_:=base.ka.cell 0;have d1:w.cell? ⟨w0.heap.size,1,none⟩=_:=base.ka.cell 1;have d2:w.cell? ⟨w0.heap.size,2,none⟩=_:=base.ka.cell 2;simp only[Ze,Zf]at d0 d1 d2;go_simp;exact fcV hK (fcP 2 rfl rfl fun _=>rfl)
  · intro Ls vs w Kk H hu hD hK;go_simp;exact fcV hK (fcP 3 rfl rfl fun _=>rfl)
  · intro Ls vs w Kk H hu hD hK;have base:pluB w0 sa sb A L c A' L' c' B M d B' M' d' p q w:=fcG H hu hD 0 rfl rfl rfl;have f2:vs 2= .pointer (some ⟨w0.heap.size+1,2,none⟩):=fcG H hu hD 3 rfl rfl rfl;have d0:w.cell? ⟨w0.heap.size+1,0,none⟩=_:=base.kb.cell 0;have d1:w.cell? ⟨w0.heap.size+1,1,none⟩=_:=base.kb.cell 1;have d2:w.cell? ⟨w0.heap.size+1,2,none⟩=_:=base.kb.cell 2;simp only[Ze,Zf]at d0 d1 d2;go_simp;exact fcV hK (fcP 4 rfl rfl fun _=>rfl)
  · intro Ls vs w Kk H hu hD hK;have base:pluB w0 sa sb A L c A' L' c' B M d B' M' d' p q w:=fcG H hu hD 0 rfl rfl rfl;have f1:vs 1= .slice A L c:=fcG H hu hD 2 rfl rfl rfl;have f3:vs 3= .slice B' M' d':=fcG H hu hD 4 rfl rfl rfl;go_simp;refine(Z19 _ _ _ _ w base.v.1 base.v.2.2.2 k k HK.o.1.1 HK.o.2.1.2 (Nat.le_trans HK.o.2.2.1 (by omega))).mono ?_;rintro e w' ⟨v,rfl,hv, -,hb⟩;obtain⟨X,N,f,rfl⟩:=Z0g hv;exact⟨_,rfl,fcC hK (fun f hf _ h=>pl1K w0 sa sb A L c A' L' c' B M d B' M' d' p q f hf _ _ _ hb h) (fcK [5,16] rfl<|fcL (fun _=>⟨X,N,f,rfl,hv⟩)<|fcL (fun hL=>absurd (show(4:Nat)∈([0,1,2,3,4]:List Nat)from by decide) (hL 15 (show(15:Nat)∈([4,15]:List Nat)from by decide) (show(15:Nat)≠4 from by decide)).2)<|fcN _)⟩
  · intro Ls vs w Kk H hu hD hK;go_simp;exact fcV hK (fcP 6 rfl rfl fun _=>rfl)
  · intro Ls vs w Kk H hu hD hK;have base:pluB w0 sa sb A L c A' L' c' B M d B' M' d' p q w:=fcG H hu hD 0 rfl rfl rfl;have f5:vs 5= .pointer (some ⟨w0.heap.size+1,1,none⟩):=fcG H hu hD 6 rfl rfl rfl;have d0:w.cell? ⟨w0.heap.size+1,0,none⟩=_:=base.kb.cell 0;have d1:w.cell? ⟨w0.heap.size+1,1,none⟩=_:=base.kb.cell 1;have d2:w.cell? ⟨w0.heap.size+1,2,none⟩=_:=base.kb.cell 2;simp only[Ze,Zf]at d0 d1 d2;go_simp;exact fcV hK (fcP 7 rfl rfl fun _=>rfl)
  · intro Ls vs w Kk H hu hD hK;go_simp;exact fcV hK (fcP 8 rfl rfl fun _=>rfl)
  · intro Ls vs w Kk H hu hD hK;have base:pluB w0 sa sb A L c A' L' c' B M d B' M' d' p q w:=fcG H hu hD 0 rfl rfl rfl;have f7:vs 7= .pointer (some ⟨w0.heap.size,2,none⟩):=fcG H hu hD 8 rfl rfl rfl;have d0:w.cell? ⟨w0.heap.size,0,none⟩=_:=base.ka.cell 0;have d1:w.cell? ⟨w0.heap.size,1,none⟩=_:=base.ka.cell 1;have d2:w.cell? ⟨w0.heap.size,2,none⟩=_:=base.ka.cell 2;simp only[Ze,Zf]at d0 d1 d2;go_simp;exact fcV hK (fcP 9 rfl rfl fun _=>rfl)
  · intro Ls vs w Kk H hu hD hK;have base:pluB w0 sa sb A L c A' L' c' B M d B' M' d' p q w:=fcG H hu hD 0 rfl rfl rfl;have f6:vs 6= .slice B M d:=fcG H hu hD 7 rfl rfl rfl;have f8:vs 8= .slice A' L' c':=fcG H hu hD 9 rfl rfl rfl;go_simp;refine(Z19 _ _ _ _ w base.v.2.2.1 base.v.2.1 k k HK.o.2.1.1 HK.o.1.2 (Nat.le_trans HK.o.2.2.1 (by omega))).mono ?_;rintro e w' ⟨v,rfl,hv, -,hb⟩;obtain⟨X,N,f,rfl⟩:=Z0g hv;exact⟨_,rfl,fcC hK (fun f hf _ h=>pl1K w0 sa sb A L c A' L' c' B M d B' M' d' p q f hf _ _ _ hb h) (fcK [10,17] rfl<|fcL (fun _=>⟨X,N,f,rfl,hv⟩)<|fcL (fun hL=>absurd (show(9:Nat)∈([5,6,7,8,9]:List Nat)from by decide) (hL 16 (show(16:Nat)∈([9,16]:List Nat)from by decide) (show(16:Nat)≠9 from by decide)).2)<|fcN _)⟩
  · intro Ls vs w Kk H hu hD hK;go_simp;exact fcV hK (fcP 11 rfl rfl fun _=>rfl)
  · intro Ls vs w Kk H hu hD hK;have base:pluB w0 sa sb A L c A' L' c' B M d B' M' d' p q w:=fcG H hu hD 0 rfl rfl rfl;have f10:vs 10= .pointer (some ⟨w0.heap.size,2,none⟩):=fcG H hu hD 11 rfl rfl rfl;have d0:w.cell? ⟨w0.heap.size,0,none⟩=_:=base.ka.cell 0;have d1:w.cell? ⟨w0.heap.size,1,none⟩=_:=base.ka.cell 1;have d2:w.cell? ⟨w0.heap.size,2,none⟩=_:=base.ka.cell 2;simp only[Ze,Zf]at d0 d1 d2;go_simp;exact fcV hK (fcP 12 rfl rfl fun _=>rfl)
  · intro Ls vs w Kk H hu hD hK;go_simp;exact fcV hK (fcP 13 rfl rfl fun _=>rfl)
  · intro Ls vs w Kk H hu hD hK;have base:pluB w0 sa sb A L c A' L' c' B M d B' M' d' p q w:=fcG H hu hD 0 rfl rfl rfl;have f12:vs 12= .pointer (some ⟨w0.heap.size+1,2,none⟩):=fcG H hu hD 13 rfl rfl rfl;have d0:w.cell? ⟨w0.heap.size+1,0,none⟩=_:=base.kb.cell 0;have d1:w.cell? ⟨w0.heap.size+1,1,none⟩=_:=base.kb.cell 1;have d2:w.cell? ⟨w0.heap.size+1,2,none⟩=_:=base.kb.cell 2;simp only[Ze,Zf]at d0 d1 d2;go_simp;exact fcV hK (fcP 14 rfl rfl fun _=>rfl)
  · intro Ls vs w Kk H hu hD hK;have base:pluB w0 sa sb A L c A' L' c' B M d B' M' d' p q w:=fcG H hu hD 0 rfl rfl rfl;have f11:vs 11= .slice A' L' c':=fcG H hu hD 12 rfl rfl rfl;have f13:vs 13= .slice B' M' d':=fcG H hu hD 14 rfl rfl rfl;go_simp;refine(Z19 _ _ _ _ w base.v.2.1 base.v.2.2.2 k k HK.o.1.2 HK.o.2.1.2 (Nat.le_trans HK.o.2.2.1 (by omega))).mono ?_;rintro e w' ⟨v,rfl,hv, -,hb⟩;obtain⟨X,N,f,rfl⟩:=Z0g hv;exact⟨_,rfl,fcC hK (fun f hf _ h=>pl1K w0 sa sb A L c A' L' c' B M d B' M' d' p q f hf _ _ _ hb h) (fcK [15,18] rfl<|fcL (fun _=>⟨X,N,f,rfl,hv⟩)<|fcL (fun hL=>absurd (show(14:Nat)∈([10,11,12,13,14]:List Nat)from by decide) (hL 17 (show(17:Nat)∈([14,17]:List Nat)from by decide) (show(17:Nat)≠14 from by decide)).2)<|fcN _)⟩
  · intro Ls vs w Kk H hu hD hK;obtain⟨Xx4,Nx4,fx4,ex4,vx4⟩:∃X N f,vs 4= .slice X N f∧Z05 w (.slice X N f) (p.num.natAbs*q.den):=fcG H hu hD 5 rfl rfl rfl;go_simp;exact fcV hK (fcP 16 rfl rfl fun _=>ex4.symm)
  · intro Ls vs w Kk H hu hD hK;obtain⟨Xx9,Nx9,fx9,ex9,vx9⟩:∃X N f,vs 9= .slice X N f∧Z05 w (.slice X N f) (q.num.natAbs*p.den):=fcG H hu hD 10 rfl rfl rfl;go_simp;exact fcV hK (fcP 17 rfl rfl fun _=>ex9.symm)
  · intro Ls vs w Kk H hu hD hK;obtain⟨Xx14,Nx14,fx14,ex14,vx14⟩:∃X N f,vs 14= .slice X N f∧Z05 w (.slice X N f) (p.den*q.den):=fcG H hu hD 15 rfl rfl rfl;go_simp;exact fcV hK (fcP 18 rfl rfl fun _=>ex14.symm)
  ·
   intro vs w H;have base:pluB w0 sa sb A L c A' L' c' B M d B' M' d' p q w:=fcE H 0 rfl rfl;have f0:vs 0= .pointer (some ⟨w0.heap.size,1,none⟩):=fcE H 1 rfl rfl;have f1:vs 1= .slice A L c:=fcE H 2 rfl rfl;have f2:vs 2= .pointer (some ⟨w0.heap.size+1,2,none⟩):=fcE H 3 rfl rfl;have f3:vs 3= .slice B' M' d':=fcE H 4 rfl rfl;obtain⟨Xx4,Nx4,fx4,ex4,vx4⟩:∃X N f,vs 4= .slice X N f∧Z05 w (.slice X N f) (p.num.natAbs*q.den):=fcE H 5 rfl rfl;have f5:vs 5= .pointer (some ⟨w0.heap.size+1,1,none⟩):=fcE H 6 rfl rfl;have f6:vs 6= .slice B M d:=fcE H 7 rfl rfl;have f7:vs 7= .pointer (some ⟨w0.heap.size,2,none⟩):=fcE H 8 rfl rfl;have f8:vs 8= .slice A' L' c':=fcE H 9 rfl rfl;obtain⟨Xx9,Nx9,fx9,ex9,vx9⟩:∃X N f,vs 9= .slice X N f∧Z05 w (.slice X N f) (q.num.natAbs*p.den):=fcE H 10 rfl rfl;have f10:vs 10= .pointer (some ⟨w0.heap.size,2,none⟩):=fcE H 11 rfl rfl;have f11:vs 11= .slice A' L' c':=fcE H 12 rfl rfl;have f12:vs 12= .pointer (some ⟨w0.heap.size+1,2,none⟩):=fcE H 13 rfl rfl;have f13:vs 13= .slice B' M' d':=fcE H 14 rfl rfl;obtain⟨Xx14,Nx14,fx14,ex14,vx14⟩:∃X N f,vs 14= .slice X N f∧Z05 w (.slice X N f) (p.den*q.den):=fcE H 15 rfl rfl;have f15:vs 15=vs 4:=fcE H 16 rfl rfl;have f16:vs 16=vs 9:=fcE H 17 rfl rfl;have f17:vs 17=vs 14:=fcE H 18 rfl rfl;clear H;simp only[Nat.zero_add,Nat.reduceAdd];have HH:Hid (pluB w0 sa sb A L c A' L' c' B M d B' M' d' p q w∧Z05 w (.slice Xx4 Nx4 fx4) (p.num.natAbs*q.den)∧Z05 w (.slice Xx9 Nx9 fx9) (q.num.natAbs*p.den)∧Z05 w (.slice Xx14 Nx14 fx14) (p.den*q.den)):=⟨base,vx4,vx9,vx14⟩;clear base vx4 vx9 vx14;simp only[f15,f16,f17,ex4,ex9,ex14,f0,f1,f2,f3,f5,f6,f7,f8,f10,f11,f12,f13];clear f15 f16 f17 ex4 ex9 ex14 f0 f1 f2 f3 f5 f6 f7 f8 f10 f11 f12 f13;go_wp2_with fail;go_meet
   case rel=>exact⟨_,_,_,_,_,_,_,_,_,rfl,rfl,rfl,HH⟩
 case rest=>
  obtain⟨X1,N1,j1,Y1,O1,j2,Z1,P1,j3,rfl,rfl,rfl,HH⟩:=hcut;clear HBASE HW1;have c0:wc.cell? ⟨w0.heap.size,0,none⟩=_:=HH.o.1.ka.cell 0;have c1:wc.cell? ⟨w0.heap.size+1,0,none⟩=_:=HH.o.1.kb.cell 0;simp only[Ze]at c0 c1;by_cases hss:sa=sb
  ·
   have hsq:(sa==sb)=true:=(by rw[hss];simp);have HSG:=Za (Zfj (p:=p) (q:=q) HSA.o (by rw[hss];exact HSB.o));have HLX:=HLS;have HBAS2:Hid (pluB w0 sa sb A L c A' L' c' B M d B' M' d' p q wc.drew∧Z05 wc.drew (.slice X1 N1 j1) (p.num.natAbs*q.den)∧Z05 wc.drew (.slice Y1 O1 j2) (q.num.natAbs*p.den)∧Z05 wc.drew (.slice Z1 P1 j3) (p.den*q.den)):=(by have hd:Gq wc wc.drew:=(Gq.refl _).drew;exact⟨HH.o.1.gq hd,HH.o.2.1.below hd,HH.o.2.2.1.below hd,HH.o.2.2.2.below hd⟩);clear hss;go_upto_region 3 with(fail);clear HH c0 c1;refine Z00 _ (by kernel_rfl) [[],[0],[],[],[2,3],[],[0,1,2,3,4,5],[0,1,2,3,4,5,6]] (by kernel_rfl) (by kernel_rfl) [some 28,some 29,some 30,some 31,some 32,some 33,some 34,none] (by kernel_rfl) (fun vs=>by simp only[Go.Dwo.putA,Go.Dwo.putL,if_true,Act.put,Zb,Zc,Zd];rfl) (pl3F w0 sa sb A L c A' L' c' B M d B' M' d' p q X1 N1 j1 Y1 O1 j2 Z1 P1 j3) (by kernel_rfl) ?_ ⟨?_, ?_, ?_, ?_, ?_, ?_, ?_, ?_,trivial⟩ ?_
   · exact fcZ [0] rfl<|fcL (HBAS2.o)<|fcN _
   · intro Ls vs w Kk H hu hD hK;go_simp;exact fcV hK (fcP 1 rfl rfl fun _=>rfl)
   · intro Ls vs w Kk H hu hD hK;obtain⟨base,va,vb,vd⟩:pluB w0 sa sb A L c A' L' c' B M d B' M' d' p q w∧Z05 w (.slice X1 N1 j1) (p.num.natAbs*q.den)∧Z05 w (.slice Y1 O1 j2) (q.num.natAbs*p.den)∧Z05 w (.slice Z1 P1 j3) (p.den*q.den):=fcG H hu hD 0 rfl rfl rfl;have f0:vs 0= .pointer (some ⟨w0.heap.size,0,none⟩):=fcG H hu hD 1 rfl rfl rfl;have d0:w.cell? ⟨w0.heap.size,0,none⟩=_:=base.ka.cell 0;have d1:w.cell? ⟨w0.heap.size,1,none⟩=_:=base.ka.cell 1;have d2:w.cell? ⟨w0.heap.size,2,none⟩=_:=base.ka.cell 2;simp only[Ze,Zf]at d0 d1 d2;go_simp;exact fcV hK (fcP 2 rfl rfl fun _=>rfl)
   · intro Ls vs w Kk H hu hD hK;go_simp;exact fcV hK (fcP 3 rfl rfl fun _=>rfl)
   · intro Ls vs w Kk H hu hD hK;go_simp;exact fcV hK (fcP 4 rfl rfl fun _=>rfl)
   · intro Ls vs w Kk H hu hD hK;obtain⟨base,va,vb,vd⟩:pluB w0 sa sb A L c A' L' c' B M d B' M' d' p q w∧Z05 w (.slice X1 N1 j1) (p.num.natAbs*q.den)∧Z05 w (.slice Y1 O1 j2) (q.num.natAbs*p.den)∧Z05 w (.slice Z1 P1 j3) (p.den*q.den):=fcG H hu hD 0 rfl rfl rfl;have f2:vs 2= .slice X1 N1 j1:=fcG H hu hD 3 rfl rfl rfl;have f3:vs 3= .slice Y1 O1 j2:=fcG H hu hD 4 rfl rfl rfl;go_simp;refine(addR_any _ _ _ _ w va vb (k+k) HLA.o HLB.o (Nat.le_trans HK.o.2.2.1 (by omega))).mono ?_;rintro e w' ⟨v,rfl,hv, -,hb⟩;obtain⟨X,N,f,rfl⟩:=Z0g hv;exact⟨_,rfl,fcC hK (fun f hf _ h=>pl3K w0 sa sb A L c A' L' c' B M d B' M' d' p q X1 N1 j1 Y1 O1 j2 Z1 P1 j3 f hf _ _ _ hb h) (fcP 5 rfl rfl fun _=>⟨X,N,f,rfl,hv⟩)⟩
   · intro Ls vs w Kk H hu hD hK;go_simp;exact fcV hK (fcP 6 rfl rfl fun _=>rfl)
   · intro Ls vs w Kk H hu hD hK;obtain⟨base,va,vb,vd⟩:pluB w0 sa sb A L c A' L' c' B M d B' M' d' p q w∧Z05 w (.slice X1 N1 j1) (p.num.natAbs*q.den)∧Z05 w (.slice Y1 O1 j2) (q.num.natAbs*p.den)∧Z05 w (.slice Z1 P1 j3) (p.den*q.den):=fcG H hu hD 0 rfl rfl rfl;have f1:vs 1= .bool sa:=fcG H hu hD 2 rfl rfl rfl;obtain⟨Xx4,Nx4,fx4,ex4,vx4⟩:∃X N f,vs 4= .slice X N f∧Z05 w (.slice X N f) (p.num.natAbs*q.den+q.num.natAbs*p.den):=fcG H hu hD 5 rfl rfl rfl;have f5:vs 5= .slice Z1 P1 j3:=fcG H hu hD 6 rfl rfl rfl;go_simp;refine(Z1m sa _ _ (p.num.natAbs*q.den+q.num.natAbs*p.den) (p.den*q.den) (p.num*q.den+q.num*p.den) w vx4 vd HD.o HSG.o.1 HSG.o.2 (k+k+1) (HLX.o) (HLD.o) (by have:=HK.o.2.2.1;omega)).mono ?_;rintro e w' ⟨v,rfl,hv,hb⟩;obtain⟨X,N,f,Y,O,t,rfl, -, -⟩:=Z0c hv;exact⟨_,rfl,fcC hK (fun f hf _ h=>pl3K w0 sa sb A L c A' L' c' B M d B' M' d' p q X1 N1 j1 Y1 O1 j2 Z1 P1 j3 f hf _ _ _ hb h) (fcP 7 rfl rfl fun _=>⟨_,X,N,f,Y,O,t,rfl,hv⟩)⟩
   · intro Ls vs w Kk H hu hD hK;obtain⟨base,va,vb,vd⟩:pluB w0 sa sb A L c A' L' c' B M d B' M' d' p q w∧Z05 w (.slice X1 N1 j1) (p.num.natAbs*q.den)∧Z05 w (.slice Y1 O1 j2) (q.num.natAbs*p.den)∧Z05 w (.slice Z1 P1 j3) (p.den*q.den):=fcG H hu hD 0 rfl rfl rfl;obtain⟨sx6,Xx6,Nx6,fx6,Yx6,Ox6,tx6,ex6,vx6⟩:∃s X N f Y O t,vs 6= .agg #[.bool s,.slice X N f,.slice Y O t]∧Z0d w (.agg #[.bool s,.slice X N f,.slice Y O t]) (mkRat (p.num*q.den+q.num*p.den) (p.den*q.den)):=fcG H hu hD 7 rfl rfl rfl;obtain⟨x0,x1,x2,c0,c1,c2,d0,d1,d2⟩:=base.nb.cells;go_simp;have ho:=Zbd w (w0.heap.size+1+1) (.bool sx6) (.slice Xx6 Nx6 fx6) (.slice Yx6 Ox6 tx6);refine hK.out _ _ (fcL (fun _ _ _ h=>⟨h.1.store (Z0h _) (Z03 _ _ _) (Z03 _ _ _),base.nb.lim ho h.2.1,base.nb.lim ho h.2.2.1,base.nb.lim ho h.2.2.2⟩)<|fcL (fun _ _ _ h=>h)<|fcL (fun _ _ _ h=>h)<|fcL (fun _ _ _ h=>h)<|fcL (fun _ _ _ h=>h)<|fcL (fun _ _ _ h=>(by obtain⟨X,N,f,h1,h2⟩:=h;exact⟨X,N,f,h1,base.nb.lim ho h2⟩))<|fcL (fun _ _ _ h=>h)<|fcL (fun _ _ _ h=>(by obtain⟨s,X,N,f,Y,O,t,h1,h2⟩:=h;exact⟨s,X,N,f,Y,O,t,h1,base.nb.num ho h2⟩))<|fcL (fun hn=>absurd (show(7:Nat)∈([7]:List Nat)from by decide) hn)<|fcN _) ?_;exact fcP 8 rfl rfl fun _=>⟨sx6,Xx6,Nx6,fx6,Yx6,Ox6,tx6,base.nb.store,base.nb.num ho vx6⟩
   · intro vs w H;obtain⟨base,va,vb,vd⟩:pluB w0 sa sb A L c A' L' c' B M d B' M' d' p q w∧Z05 w (.slice X1 N1 j1) (p.num.natAbs*q.den)∧Z05 w (.slice Y1 O1 j2) (q.num.natAbs*p.den)∧Z05 w (.slice Z1 P1 j3) (p.den*q.den):=fcE H 0 rfl rfl;have f0:vs 0= .pointer (some ⟨w0.heap.size,0,none⟩):=fcE H 1 rfl rfl;have f1:vs 1= .bool sa:=fcE H 2 rfl rfl;have f2:vs 2= .slice X1 N1 j1:=fcE H 3 rfl rfl;have f3:vs 3= .slice Y1 O1 j2:=fcE H 4 rfl rfl;have f5:vs 5= .slice Z1 P1 j3:=fcE H 6 rfl rfl;obtain⟨s,X,N,f,Y,O,t,hk,hv⟩:∃s X N f Y O t,Blk w (w0.heap.size+1+1) 85 [.bool s,.slice X N f,.slice Y O t]∧Z0d w (.agg #[.bool s,.slice X N f,.slice Y O t]) (mkRat (p.num*q.den+q.num*p.den) (p.den*q.den)):=fcE H 8 rfl rfl;clear H;simp only[Nat.zero_add,Nat.reduceAdd];clear va vb vd;have k2:=hk.cell 0;have k3:=hk.cell 1;have k4:=hk.cell 2;simp only[Ze,Zf]at k2 k3 k4;have HH:Hid (Z0d w (.agg #[.bool s,.slice X N f,.slice Y O t]) R∧Gq w0 w):=⟨by rw[←HR.o];exact hv,base.g⟩;clear hk hv base;simp only[f0,f1,f2,f3,f5];clear f0 f1 f2 f3 f5;generalize vs 4=z4,vs 6=z6;go_wp2_with fail;exact bodyPost_ret (v:= .agg #[.bool s,.slice X N f,.slice Y O t]) (by simp[results,Tryz.results91,go_sem,k2,k3,k4]) rfl ⟨_,rfl,HH.o.1,HH.o.2⟩
  ·
   have hsq:(sa==sb)=false:=(by simpa using hss);have HPD:=Za (Zfk (p:=p) (q:=q) HSA.o HSB.o hss);have HCP:=Za (Z5a (.slice X1 N1 j1) (.slice Y1 O1 j2) _ _ wc HH.o.2.1 HH.o.2.2.1 (k+k) HLA.o HLB.o (Nat.le_trans HK.o.2.2.1 (by omega)))
   have HBASR:Hid (∀W,Gq wc W→pluB w0 sa sb A L c A' L' c' B M d B' M' d' p q W∧Z05 W (.slice X1 N1 j1) (p.num.natAbs*q.den)∧Z05 W (.slice Y1 O1 j2) (q.num.natAbs*p.den)∧Z05 W (.slice Z1 P1 j3) (p.den*q.den)):=fun W hd=>
    ⟨HH.o.1.gq hd,HH.o.2.1.below hd,HH.o.2.2.1.below hd,HH.o.2.2.2.below hd⟩
   obtain⟨cr,hcr⟩:∃cr,Z27 (p.num.natAbs*q.den) (q.num.natAbs*p.den)=cr:=⟨_,rfl⟩;unfold Z45 at HCP;rw[hcr]at HCP;by_cases hle:q.num.natAbs*p.den≤p.num.natAbs*q.den
   ·
    have hcg:decide (0≤cr)=true:=by
     rw[←hcr];rcases Nat.lt_or_eq_of_le hle with q1|q1
     · rw[Z28 q1];rfl
     · rw[q1,Z2v];rfl
    have HSG:=Za (HPD.o.1 hle);have HLE:=Za hle;have HLX:Hid (Lim (k+k+1) (p.num.natAbs*q.den - q.num.natAbs*p.den)):=(HLA.o.mono (by omega)).le (Nat.sub_le _ _);clear hss hcr hle HPD;go_upto_region 4 with(fail);go_wp2_with fail;refine HCP.o.mono ?_;rintro e w3 ⟨rfl,hg3⟩;have HBAS2:=Za (HBASR.o w3.drew (Gq.trans (show Gq wc w3 from hg3.below) (Gq.refl _).drew));have d0:w3.cell? ⟨w0.heap.size,0,none⟩=_:=(HBASR.o w3 hg3.below).1.ka.cell 0;simp only[Ze]at d0;clear HH c0 c1 hg3 HBASR HCP d0;go_upto_region 5 with(fail);refine Z00 _ (by kernel_rfl) [[],[0],[],[],[2,3],[],[0,1,2,3,4,5],[0,1,2,3,4,5,6]] (by kernel_rfl) (by kernel_rfl) [some 39,some 40,some 41,some 42,some 43,some 44,some 45,none] (by kernel_rfl) (fun vs=>by simp only[Go.Dwo.putA,Go.Dwo.putL,if_true,Act.put,Zb,Zc,Zd];rfl) (pl5F w0 sa sb A L c A' L' c' B M d B' M' d' p q X1 N1 j1 Y1 O1 j2 Z1 P1 j3) (by kernel_rfl) ?_ ⟨?_, ?_, ?_, ?_, ?_, ?_, ?_, ?_,trivial⟩ ?_
    · exact fcZ [0] rfl<|fcL (HBAS2.o)<|fcN _
    · intro Ls vs w Kk H hu hD hK;go_simp;exact fcV hK (fcP 1 rfl rfl fun _=>rfl)
    · intro Ls vs w Kk H hu hD hK;obtain⟨base,va,vb,vd⟩:pluB w0 sa sb A L c A' L' c' B M d B' M' d' p q w∧Z05 w (.slice X1 N1 j1) (p.num.natAbs*q.den)∧Z05 w (.slice Y1 O1 j2) (q.num.natAbs*p.den)∧Z05 w (.slice Z1 P1 j3) (p.den*q.den):=fcG H hu hD 0 rfl rfl rfl;have f0:vs 0= .pointer (some ⟨w0.heap.size,0,none⟩):=fcG H hu hD 1 rfl rfl rfl;have d0:w.cell? ⟨w0.heap.size,0,none⟩=_:=base.ka.cell 0;have d1:w.cell? ⟨w0.heap.size,1,none⟩=_:=base.ka.cell 1;have d2:w.cell? ⟨w0.heap.size,2,none⟩=_:=base.ka.cell 2;simp only[Ze,Zf]at d0 d1 d2;go_simp;exact fcV hK (fcP 2 rfl rfl fun _=>rfl)
    · intro Ls vs w Kk H hu hD hK;go_simp;exact fcV hK (fcP 3 rfl rfl fun _=>rfl)
    · intro Ls vs w Kk H hu hD hK;go_simp;exact fcV hK (fcP 4 rfl rfl fun _=>rfl)
    · intro Ls vs w Kk H hu hD hK;obtain⟨base,va,vb,vd⟩:pluB w0 sa sb A L c A' L' c' B M d B' M' d' p q w∧Z05 w (.slice X1 N1 j1) (p.num.natAbs*q.den)∧Z05 w (.slice Y1 O1 j2) (q.num.natAbs*p.den)∧Z05 w (.slice Z1 P1 j3) (p.den*q.den):=fcG H hu hD 0 rfl rfl rfl;have f2:vs 2= .slice X1 N1 j1:=fcG H hu hD 3 rfl rfl rfl;have f3:vs 3= .slice Y1 O1 j2:=fcG H hu hD 4 rfl rfl rfl;go_simp;refine(Z5r _ _ _ _ w va vb (k+k) HLA.o HLE.o (Nat.le_trans HK.o.2.2.1 (by omega))).mono ?_;rintro e w' ⟨v,rfl,hv, -,hb⟩;obtain⟨X,N,f,rfl⟩:=Z0g hv;exact⟨_,rfl,fcC hK (fun f hf _ h=>pl5K w0 sa sb A L c A' L' c' B M d B' M' d' p q X1 N1 j1 Y1 O1 j2 Z1 P1 j3 f hf _ _ _ hb h) (fcP 5 rfl rfl fun _=>⟨X,N,f,rfl,hv⟩)⟩
    · intro Ls vs w Kk H hu hD hK;go_simp;exact fcV hK (fcP 6 rfl rfl fun _=>rfl)
    · intro Ls vs w Kk H hu hD hK;obtain⟨base,va,vb,vd⟩:pluB w0 sa sb A L c A' L' c' B M d B' M' d' p q w∧Z05 w (.slice X1 N1 j1) (p.num.natAbs*q.den)∧Z05 w (.slice Y1 O1 j2) (q.num.natAbs*p.den)∧Z05 w (.slice Z1 P1 j3) (p.den*q.den):=fcG H hu hD 0 rfl rfl rfl;have f1:vs 1= .bool sa:=fcG H hu hD 2 rfl rfl rfl;obtain⟨Xx4,Nx4,fx4,ex4,vx4⟩:∃X N f,vs 4= .slice X N f∧Z05 w (.slice X N f) (p.num.natAbs*q.den - q.num.natAbs*p.den):=fcG H hu hD 5 rfl rfl rfl;have f5:vs 5= .slice Z1 P1 j3:=fcG H hu hD 6 rfl rfl rfl;go_simp;refine(Z1m sa _ _ (p.num.natAbs*q.den - q.num.natAbs*p.den) (p.den*q.den) (p.num*q.den+q.num*p.den) w vx4 vd HD.o HSG.o.1 HSG.o.2 (k+k+1) (HLX.o) (HLD.o) (by have:=HK.o.2.2.1;omega)).mono ?_;rintro e w' ⟨v,rfl,hv,hb⟩;obtain⟨X,N,f,Y,O,t,rfl, -, -⟩:=Z0c hv;exact⟨_,rfl,fcC hK (fun f hf _ h=>pl5K w0 sa sb A L c A' L' c' B M d B' M' d' p q X1 N1 j1 Y1 O1 j2 Z1 P1 j3 f hf _ _ _ hb h) (fcP 7 rfl rfl fun _=>⟨_,X,N,f,Y,O,t,rfl,hv⟩)⟩
    · intro Ls vs w Kk H hu hD hK;obtain⟨base,va,vb,vd⟩:pluB w0 sa sb A L c A' L' c' B M d B' M' d' p q w∧Z05 w (.slice X1 N1 j1) (p.num.natAbs*q.den)∧Z05 w (.slice Y1 O1 j2) (q.num.natAbs*p.den)∧Z05 w (.slice Z1 P1 j3) (p.den*q.den):=fcG H hu hD 0 rfl rfl rfl;obtain⟨sx6,Xx6,Nx6,fx6,Yx6,Ox6,tx6,ex6,vx6⟩:∃s X N f Y O t,vs 6= .agg #[.bool s,.slice X N f,.slice Y O t]∧Z0d w (.agg #[.bool s,.slice X N f,.slice Y O t]) (mkRat (p.num*q.den+q.num*p.den) (p.den*q.den)):=fcG H hu hD 7 rfl rfl rfl;obtain⟨x0,x1,x2,c0,c1,c2,d0,d1,d2⟩:=base.nb.cells;go_simp;have ho:=Zbd w (w0.heap.size+1+1) (.bool sx6) (.slice Xx6 Nx6 fx6) (.slice Yx6 Ox6 tx6);refine hK.out _ _ (fcL (fun _ _ _ h=>⟨h.1.store (Z0h _) (Z03 _ _ _) (Z03 _ _ _),base.nb.lim ho h.2.1,base.nb.lim ho h.2.2.1,base.nb.lim ho h.2.2.2⟩)<|fcL (fun _ _ _ h=>h)<|fcL (fun _ _ _ h=>h)<|fcL (fun _ _ _ h=>h)<|fcL (fun _ _ _ h=>h)<|fcL (fun _ _ _ h=>(by obtain⟨X,N,f,h1,h2⟩:=h;exact⟨X,N,f,h1,base.nb.lim ho h2⟩))<|fcL (fun _ _ _ h=>h)<|fcL (fun _ _ _ h=>(by obtain⟨s,X,N,f,Y,O,t,h1,h2⟩:=h;exact⟨s,X,N,f,Y,O,t,h1,base.nb.num ho h2⟩))<|fcL (fun hn=>absurd (show(7:Nat)∈([7]:List Nat)from by decide) hn)<|fcN _) ?_;exact fcP 8 rfl rfl fun _=>⟨sx6,Xx6,Nx6,fx6,Yx6,Ox6,tx6,base.nb.store,base.nb.num ho vx6⟩
    · intro vs w H;obtain⟨base,va,vb,vd⟩:pluB w0 sa sb A L c A' L' c' B M d B' M' d' p q w∧Z05 w (.slice X1 N1 j1) (p.num.natAbs*q.den)∧Z05 w (.slice Y1 O1 j2) (q.num.natAbs*p.den)∧Z05 w (.slice Z1 P1 j3) (p.den*q.den):=fcE H 0 rfl rfl;have f0:vs 0= .pointer (some ⟨w0.heap.size,0,none⟩):=fcE H 1 rfl rfl;have f1:vs 1= .bool sa:=fcE H 2 rfl rfl;have f2:vs 2= .slice X1 N1 j1:=fcE H 3 rfl rfl;have f3:vs 3= .slice Y1 O1 j2:=fcE H 4 rfl rfl;have f5:vs 5= .slice Z1 P1 j3:=fcE H 6 rfl rfl;obtain⟨s,X,N,f,Y,O,t,hk,hv⟩:∃s X N f Y O t,Blk w (w0.heap.size+1+1) 85 [.bool s,.slice X N f,.slice Y O t]∧Z0d w (.agg #[.bool s,.slice X N f,.slice Y O t]) (mkRat (p.num*q.den+q.num*p.den) (p.den*q.den)):=fcE H 8 rfl rfl;clear H;simp only[Nat.zero_add,Nat.reduceAdd];clear va vb vd;have k2:=hk.cell 0;have k3:=hk.cell 1;have k4:=hk.cell 2;simp only[Ze,Zf]at k2 k3 k4;have HH:Hid (Z0d w (.agg #[.bool s,.slice X N f,.slice Y O t]) R∧Gq w0 w):=⟨by rw[←HR.o];exact hv,base.g⟩;clear hk hv base;simp only[f0,f1,f2,f3,f5];clear f0 f1 f2 f3 f5;generalize vs 4=z4,vs 6=z6;go_wp2_with fail;exact bodyPost_ret (v:= .agg #[.bool s,.slice X N f,.slice Y O t]) (by simp[results,Tryz.results91,go_sem,k2,k3,k4]) rfl ⟨_,rfl,HH.o.1,HH.o.2⟩
   ·
    have hlt:p.num.natAbs*q.den<q.num.natAbs*p.den:=Nat.lt_of_not_le hle;have hcg:decide (0≤cr)=false:=(by rw[←hcr,Z1u hlt];rfl);have HSG:Hid ((p.num*q.den+q.num*p.den).natAbs=q.num.natAbs*p.den - p.num.natAbs*q.den∧(0<q.num.natAbs*p.den - p.num.natAbs*q.den→sb=decide (p.num*q.den+q.num*p.den<0))):=⟨(HPD.o.2 hlt).1,fun _=>(HPD.o.2 hlt).2⟩;have HLE:Hid (p.num.natAbs*q.den≤q.num.natAbs*p.den):=Nat.le_of_lt hlt;have HLX:Hid (Lim (k+k+1) (q.num.natAbs*p.den - p.num.natAbs*q.den)):=(HLB.o.mono (by omega)).le (Nat.sub_le _ _);clear hss hcr hle hlt HPD;go_upto_region 4 with(fail);go_wp2_with fail;refine HCP.o.mono ?_;rintro e w3 ⟨rfl,hg3⟩;have HBAS2:=Za (HBASR.o w3.drew (Gq.trans (show Gq wc w3 from hg3.below) (Gq.refl _).drew));clear HH c0 c1 hg3 HBASR HCP;go_upto_region 6 with(fail);refine Z00 _ (by kernel_rfl) [[],[0],[],[],[2,3],[],[0,1,2,3,4,5],[0,1,2,3,4,5,6]] (by kernel_rfl) (by kernel_rfl) [some 46,some 47,some 48,some 49,some 50,some 51,some 52,none] (by kernel_rfl) (fun vs=>by simp only[Go.Dwo.putA,Go.Dwo.putL,if_true,Act.put,Zb,Zc,Zd];rfl) (pl6F w0 sa sb A L c A' L' c' B M d B' M' d' p q X1 N1 j1 Y1 O1 j2 Z1 P1 j3) (by kernel_rfl) ?_ ⟨?_, ?_, ?_, ?_, ?_, ?_, ?_, ?_,trivial⟩ ?_
    · exact fcZ [0] rfl<|fcL (HBAS2.o)<|fcN _
    · intro Ls vs w Kk H hu hD hK;go_simp;exact fcV hK (fcP 1 rfl rfl fun _=>rfl)
    · intro Ls vs w Kk H hu hD hK;obtain⟨base,va,vb,vd⟩:pluB w0 sa sb A L c A' L' c' B M d B' M' d' p q w∧Z05 w (.slice X1 N1 j1) (p.num.natAbs*q.den)∧Z05 w (.slice Y1 O1 j2) (q.num.natAbs*p.den)∧Z05 w (.slice Z1 P1 j3) (p.den*q.den):=fcG H hu hD 0 rfl rfl rfl;have f0:vs 0= .pointer (some ⟨w0.heap.size+1,0,none⟩):=fcG H hu hD 1 rfl rfl rfl;have d0:w.cell? ⟨w0.heap.size+1,0,none⟩=_:=base.kb.cell 0;have d1:w.cell? ⟨w0.heap.size+1,1,none⟩=_:=base.kb.cell 1;have d2:w.cell? ⟨w0.heap.size+1,2,none⟩=_:=base.kb.cell 2;simp only[Ze,Zf]at d0 d1 d2;go_simp;exact fcV hK (fcP 2 rfl rfl fun _=>rfl)
    · intro Ls vs w Kk H hu hD hK;go_simp;exact fcV hK (fcP 3 rfl rfl fun _=>rfl)
    · intro Ls vs w Kk H hu hD hK;go_simp;exact fcV hK (fcP 4 rfl rfl fun _=>rfl)
    · intro Ls vs w Kk H hu hD hK;obtain⟨base,va,vb,vd⟩:pluB w0 sa sb A L c A' L' c' B M d B' M' d' p q w∧Z05 w (.slice X1 N1 j1) (p.num.natAbs*q.den)∧Z05 w (.slice Y1 O1 j2) (q.num.natAbs*p.den)∧Z05 w (.slice Z1 P1 j3) (p.den*q.den):=fcG H hu hD 0 rfl rfl rfl;have f2:vs 2= .slice Y1 O1 j2:=fcG H hu hD 3 rfl rfl rfl;have f3:vs 3= .slice X1 N1 j1:=fcG H hu hD 4 rfl rfl rfl;go_simp;refine(Z5r _ _ _ _ w vb va (k+k) HLB.o HLE.o (Nat.le_trans HK.o.2.2.1 (by omega))).mono ?_;rintro e w' ⟨v,rfl,hv, -,hb⟩;obtain⟨X,N,f,rfl⟩:=Z0g hv;exact⟨_,rfl,fcC hK (fun f hf _ h=>pl6K w0 sa sb A L c A' L' c' B M d B' M' d' p q X1 N1 j1 Y1 O1 j2 Z1 P1 j3 f hf _ _ _ hb h) (fcP 5 rfl rfl fun _=>⟨X,N,f,rfl,hv⟩)⟩
    · intro Ls vs w Kk H hu hD hK;go_simp;exact fcV hK (fcP 6 rfl rfl fun _=>rfl)
    · intro Ls vs w Kk H hu hD hK;obtain⟨base,va,vb,vd⟩:pluB w0 sa sb A L c A' L' c' B M d B' M' d' p q w∧Z05 w (.slice X1 N1 j1) (p.num.natAbs*q.den)∧Z05 w (.slice Y1 O1 j2) (q.num.natAbs*p.den)∧Z05 w (.slice Z1 P1 j3) (p.den*q.den):=fcG H hu hD 0 rfl rfl rfl;have f1:vs 1= .bool sb:=fcG H hu hD 2 rfl rfl rfl;obtain⟨Xx4,Nx4,fx4,ex4,vx4⟩:∃X N f,vs 4= .slice X N f∧Z05 w (.slice X N f) (q.num.natAbs*p.den - p.num.natAbs*q.den):=fcG H hu hD 5 rfl rfl rfl;have f5:vs 5= .slice Z1 P1 j3:=fcG H hu hD 6 rfl rfl rfl;go_simp;refine(Z1m sb _ _ (q.num.natAbs*p.den - p.num.natAbs*q.den) (p.den*q.den) (p.num*q.den+q.num*p.den) w vx4 vd HD.o HSG.o.1 HSG.o.2 (k+k+1) (HLX.o) (HLD.o) (by have:=HK.o.2.2.1;omega)).mono ?_;rintro e w' ⟨v,rfl,hv,hb⟩;obtain⟨X,N,f,Y,O,t,rfl, -, -⟩:=Z0c hv;exact⟨_,rfl,fcC hK (fun f hf _ h=>pl6K w0 sa sb A L c A' L' c' B M d B' M' d' p q X1 N1 j1 Y1 O1 j2 Z1 P1 j3 f hf _ _ _ hb h) (fcP 7 rfl rfl fun _=>⟨_,X,N,f,Y,O,t,rfl,hv⟩)⟩
    · intro Ls vs w Kk H hu hD hK;obtain⟨base,va,vb,vd⟩:pluB w0 sa sb A L c A' L' c' B M d B' M' d' p q w∧Z05 w (.slice X1 N1 j1) (p.num.natAbs*q.den)∧Z05 w (.slice Y1 O1 j2) (q.num.natAbs*p.den)∧Z05 w (.slice Z1 P1 j3) (p.den*q.den):=fcG H hu hD 0 rfl rfl rfl;obtain⟨sx6,Xx6,Nx6,fx6,Yx6,Ox6,tx6,ex6,vx6⟩:∃s X N f Y O t,vs 6= .agg #[.bool s,.slice X N f,.slice Y O t]∧Z0d w (.agg #[.bool s,.slice X N f,.slice Y O t]) (mkRat (p.num*q.den+q.num*p.den) (p.den*q.den)):=fcG H hu hD 7 rfl rfl rfl;obtain⟨x0,x1,x2,c0,c1,c2,d0,d1,d2⟩:=base.nb.cells;go_simp;have ho:=Zbd w (w0.heap.size+1+1) (.bool sx6) (.slice Xx6 Nx6 fx6) (.slice Yx6 Ox6 tx6);refine hK.out _ _ (fcL (fun _ _ _ h=>⟨h.1.store (Z0h _) (Z03 _ _ _) (Z03 _ _ _),base.nb.lim ho h.2.1,base.nb.lim ho h.2.2.1,base.nb.lim ho h.2.2.2⟩)<|fcL (fun _ _ _ h=>h)<|fcL (fun _ _ _ h=>h)<|fcL (fun _ _ _ h=>h)<|fcL (fun _ _ _ h=>h)<|fcL (fun _ _ _ h=>(by obtain⟨X,N,f,h1,h2⟩:=h;exact⟨X,N,f,h1,base.nb.lim ho h2⟩))<|fcL (fun _ _ _ h=>h)<|fcL (fun _ _ _ h=>(by obtain⟨s,X,N,f,Y,O,t,h1,h2⟩:=h;exact⟨s,X,N,f,Y,O,t,h1,base.nb.num ho h2⟩))<|fcL (fun hn=>absurd (show(7:Nat)∈([7]:List Nat)from by decide) hn)<|fcN _) ?_;exact fcP 8 rfl rfl fun _=>⟨sx6,Xx6,Nx6,fx6,Yx6,Ox6,tx6,base.nb.store,base.nb.num ho vx6⟩
    · intro vs w H;obtain⟨base,va,vb,vd⟩:pluB w0 sa sb A L c A' L' c' B M d B' M' d' p q w∧Z05 w (.slice X1 N1 j1) (p.num.natAbs*q.den)∧Z05 w (.slice Y1 O1 j2) (q.num.natAbs*p.den)∧Z05 w (.slice Z1 P1 j3) (p.den*q.den):=fcE H 0 rfl rfl;have f0:vs 0= .pointer (some ⟨w0.heap.size+1,0,none⟩):=fcE H 1 rfl rfl;have f1:vs 1= .bool sb:=fcE H 2 rfl rfl;have f2:vs 2= .slice Y1 O1 j2:=fcE H 3 rfl rfl;have f3:vs 3= .slice X1 N1 j1:=fcE H 4 rfl rfl;have f5:vs 5= .slice Z1 P1 j3:=fcE H 6 rfl rfl;obtain⟨s,X,N,f,Y,O,t,hk,hv⟩:∃s X N f Y O t,Blk w (w0.heap.size+1+1) 85 [.bool s,.slice X N f,.slice Y O t]∧Z0d w (.agg #[.bool s,.slice X N f,.slice Y O t]) (mkRat (p.num*q.den+q.num*p.den) (p.den*q.den)):=fcE H 8 rfl rfl;clear H;simp only[Nat.zero_add,Nat.reduceAdd];clear va vb vd;have k2:=hk.cell 0;have k3:=hk.cell 1;have k4:=hk.cell 2;simp only[Ze,Zf]at k2 k3 k4;have HH:Hid (Z0d w (.agg #[.bool s,.slice X N f,.slice Y O t]) R∧Gq w0 w):=⟨by rw[←HR.o];exact hv,base.g⟩;clear hk hv base;simp only[f0,f1,f2,f3,f5];clear f0 f1 f2 f3 f5;generalize vs 4=z4,vs 6=z6;go_wp2_with fail;exact bodyPost_ret (v:= .agg #[.bool s,.slice X N f,.slice Y O t]) (by simp[results,Tryz.results91,go_sem,k2,k3,k4]) rfl ⟨_,rfl,HH.o.1,HH.o.2⟩
end Go.Proofs.YtcemlhbfemenpaaGreatDoor
namespace Go.Proofs.YtcemlhbfemenpaaGreatDoor
open Go.RowKit Go.Dw Go.Sort
theorem Zce (w:World)(o:Obj)(dk:Array UInt8)(k:Nat):Below w.heap.size w ((putRow (fun(b:UInt8)=>Value.int .u8 (b.toNat:Int)) (w.alloc o) w.heap.size 0 dk).drewN k):=by
 obtain⟨os,_,e⟩:=putRow_grow_new (fun(b:UInt8)=>Value.int .u8 (b.toNat:Int)) w #[o] w.heap.size 0 dk (Zh _);rw[alloc_eq_grow,e];exact Lib.below_grow w.heap.size w (Zh _) k os
theorem Zfl (u:Nat)(w:World)(hu64:u<18446744073709551616)(hp:HasPow w):
  Calls Tryz.prog 159 #[.int .u64 (u:Int),.int .i64 10] w fun e w'=>e= .returned (.string ⟨(Lib.decDigits u).toArray⟩)∧Below w.heap.size w w':=by
 have HP:=Za hp;clear hp;by_cases hs:u<100
 · have HSM:=Za (Any.internal_strconv_small Tryz.lays283 u hs w);have hw1:IntKind.i64.wrap (u:Int)=(u:Int):=IntWalk.i64_in _ (by omega);have hd1:decide ((u:Int)<100)=true:=decide_eq_true (by omega);go_enter Tryz.func159,Tryz.ntmps159;go_wp2_with fail;refine HSM.o.mono ?_;rintro e w' ⟨rfl,hww⟩;subst hww;go_wp2_with fail;go_ret;exact⟨rfl,Zm _ _⟩
 ·
  have hu1:1≤u:=by omega
  have hnd20:Lib.nDigits u≤20:=by have:=Lib.numDigits_eq u hu1 hu64;split at this<;>omega
  have hd1:decide ((u:Int)<100)=false:=decide_eq_false (by omega);obtain⟨nd,hnd⟩:∃nd,nd=Lib.nDigits u:=⟨_,rfl⟩;rw[←hnd]at hnd20;obtain⟨w1,hw1⟩:∃w1,w1=w.alloc (.cells Lib.zeros24 193):=⟨_,rfl⟩;have HND:Hid (Calls Tryz.prog 168 #[.int .u64 (u:Int)] w1 fun e w'=>e= .returned (.int .i64 (nd:Int))∧w'=w1):=by rw[hnd,hw1];exact Any.internal_strconv_numDigits Tryz.laysM284 u hu1 hu64 _ (Lib.tabIs_alloc HP.o _)
  have hH0:Holds (fun(b:UInt8)=>Value.int .u8 (b.toNat:Int)) w1 w.heap.size 0 (Array.replicate nd (0:UInt8)):=by rw[hw1];exact Lib.holds_zero0 w 193 nd (by omega)
  have hfmt:=Any.internal_strconv_formatBase10 Tryz.lays285 w.heap.size 0 24 u (Array.replicate nd 0) w1 hH0 (by rw[Array.size_replicate,hnd];exact Lib.lt_pow_nDigits u) hu64 (by rw[Array.size_replicate];omega);rw[Array.size_replicate]at hfmt;have HFM:Hid (Calls Tryz.prog 169 #[.slice (some ⟨w.heap.size,0,none⟩) nd 24,.int .u64 (u:Int)] w1 fun e w'=>e= .returned (.tuple #[])∧∃(n v':Nat) (dk:Array UInt8),w'=(putRow (fun(b:UInt8)=>Value.int .u8 (b.toNat:Int)) w1 w.heap.size 0 dk).drewN n∧Lib.FmtInv nd u 0 v' dk):=hfmt;have HH0:=Za hH0;have hal:Tryz.prog.arrayLen 193=24:=by kernel_rfl
  have hsl:∀W,(Instr.sliceAt 193 (.pointer (some ⟨w.heap.size,0,none⟩)) none (some (.int .i64 (nd:Int))) none).run Tryz.prog W= .ok (.slice (some ⟨w.heap.size,0,none⟩) nd 24) W:=fun W=>by rw[run_sliceAt_array_h W 193 ⟨w.heap.size,0,none⟩ (by kernel_rfl) .i64 (nd:Int) (by omega) (by rw[hal];omega)];rw[show Tryz.prog.elem 193=5 by kernel_rfl,hal];go_simp
  have HND2:=Za hnd;have HW1:=Za hw1;clear hal hH0 hfmt hnd hw1;go_enter Tryz.func159,Tryz.ntmps159;go_wp2_with fail;rw[show w.alloc (.cells #[.int .u8 0,.int .u8 0,.int .u8 0,.int .u8 0,.int .u8 0,.int .u8 0,.int .u8 0,.int .u8 0,.int .u8 0,.int .u8 0,.int .u8 0,.int .u8 0,.int .u8 0,.int .u8 0,.int .u8 0,.int .u8 0,.int .u8 0,.int .u8 0,.int .u8 0,.int .u8 0,.int .u8 0,.int .u8 0,.int .u8 0,.int .u8 0] 193)=w1 from HW1.o.symm];refine HND.o.mono ?_;rintro e w' ⟨rfl,hww⟩;subst hww;go_wp2_with fail;refine HFM.o.mono ?_;rintro e w' ⟨rfl,k,v',dk,rfl,hF⟩
  have hcv:(convert 101 9 (.slice (some ⟨w.heap.size,0,none⟩) nd 24)).run Tryz.prog ((putRow (fun(b:UInt8)=>Value.int .u8 (b.toNat:Int)) w' w.heap.size 0 dk).drewN k)= .ok (.string ⟨(Lib.decDigits u).toArray⟩) ((putRow (fun(b:UInt8)=>Value.int .u8 (b.toNat:Int)) w' w.heap.size 0 dk).drewN k):=by
   rw[HND2.o]at hF
   have h:=run_convert_bytes_back (P:=Tryz.prog) ((putRow (fun(b:UInt8)=>Value.int .u8 (b.toNat:Int)) w' w.heap.size 0 dk).drewN k) 101 9 5 ⟨w.heap.size,0,none⟩ 24 (Lib.decDigits u) Tryz.underlying101 Tryz.underlying5 Tryz.underlying9 (fun j hj=>by
    rw[Lib.row_is_numeral hF j hj,Lib.add_plain,World.cell?_drewN]
    exact cell?_putRow (fun(b:UInt8)=>Value.int .u8 (b.toNat:Int)) _ w.heap.size 0 _ dk HH0.o (by rw[hF.size,Array.size_replicate,HND2.o]) j (by rw[hF.size];rw[Lib.decDigits_length]at hj;exact hj))
   rw[Lib.decDigits_length,←HND2.o]at h;exact h
  have HB:Hid (Below w.heap.size w ((putRow (fun(b:UInt8)=>Value.int .u8 (b.toNat:Int)) w' w.heap.size 0 dk).drewN k)):=by rw[HW1.o];exact Zce w _ dk k
  clear hF;go_wp2_with fail;go_ret;exact⟨rfl,HB.o⟩
theorem fmtU_any (u:Nat)(w:World)(hu64:u<18446744073709551616)(hp:HasPow w):
  Calls Tryz.prog 132 #[.int .u64 (u:Int),.int .i64 10] w fun e w'=>e= .returned (.string ⟨(Lib.decDigits u).toArray⟩)∧Below w.heap.size w w':=by
 have H:=Za (Zfl u w hu64 hp);clear hp;go_enter Tryz.func132,Tryz.ntmps132;go_wp2_with fail;refine H.o.mono ?_;rintro e w' ⟨rfl,hb⟩;have HB:=Za hb;clear hb;go_wp2_with fail;go_ret;exact⟨rfl,HB.o⟩
end Go.Proofs.YtcemlhbfemenpaaGreatDoor
namespace Go.Proofs.YtcemlhbfemenpaaGreatDoor
open Go.RowKit Go.Dw
attribute [local go_sem ↓] Go.wp_at_zero Go.wp_at_succ
theorem wrap_ng1 {n:Int}(h: -9223372036854775808≤n∧n<0):IntKind.u64.wrap n=n+18446744073709551616:=by
 unfold IntKind.wrap;simp[IntKind.signed,IntKind.bits];omega
theorem wrap_ng2 {n:Int}(h: -9223372036854775808≤n∧n<0):IntKind.u64.wrap (-(n+18446744073709551616))= -n:=by
 unfold IntKind.wrap;simp[IntKind.signed,IntKind.bits];omega
theorem Zbf (n:Int)(w:World)(hn:Z0l n)(hp:HasPow w):
  Calls Tryz.prog 90 #[.int .i64 n] w (Z20 (mkRat n 1) w):=by
 obtain⟨hn1,hn2⟩:=hn;obtain⟨w1,hw1⟩:∃w1,w1=w.alloc (.cells #[.bool false,.slice none 0 0,.slice none 0 0] 85):=⟨_,rfl⟩;have HE:Hid (NumE w w1 w.heap.size):=by rw[hw1];exact Zbe w
 have HW1:=Za hw1;clear hw1;obtain⟨u,hu⟩:∃u:Nat,u=n.natAbs:=⟨_,rfl⟩;obtain⟨d1,d2,d3,d4⟩:=Z1d u;have dl:=Z3s 20 u (by omega) (by omega);obtain⟨s,hs⟩:∃s:ByteArray,s=⟨(Lib.decDigits u).toArray⟩:=⟨_,rfl⟩;have hsl:s.data.toList=Lib.decDigits u:=by rw[hs]
 have hsz:s.size≤20:=by have:s.data.toList.length=s.size:=(by rw[Zo];rfl);rw[←this,hsl];exact dl
 have HFU:Hid (Calls Tryz.prog 132 #[.int .u64 (u:Int),.int .i64 10] w1 fun e w'=>e= .returned (.string s)∧Gq w1 w'):=by rw[hs];exact fmtU_any u w1 (by omega) (hp.below HE.o.bel)
 have HLM:Hid (∀W,Calls Tryz.prog 96 #[.string s] W (LimF u W)):=fun W=>by have:=Z2q s W (by rw[hsl];exact d1) (by omega);rw[hsl,d2]at this;exact this
 have hl2:Lim 2 u:=by unfold Lim;have:W32 ^ 2=18446744073709551616:=(by decide);omega
 have h11:Lim 2 1:=by unfold Lim;have:W32 ^ 2=18446744073709551616:=(by decide);omega
 have HLW:Hid (∀W va,Z05 W va u→Calls Tryz.prog 87 #[.bool (decide (n<0)),va,.slice (some ⟨W.heap.size,0,none⟩) 1 1] (W.alloc (.cells #[.int .i64 1] 3)) (Z20 (mkRat n 1) (W.alloc (.cells #[.int .i64 1] 3)))):=fun W va h=>
  Z1m (decide (n<0)) va _ u 1 n _ (h.below ((Gq.refl _).alloc _)) (Z7o W) (by omega) hu.symm (fun _=>rfl) 2 hl2 h11 (by omega)
 obtain⟨x0,x1,x2,q0,q1,q2,q3,q4,q5⟩:=HE.o.cells (Gq.refl _)
 have hmain:(∃b,decide (n<0)=b∧((b=true∧IntKind.u64.wrap n=n+18446744073709551616∧IntKind.u64.wrap (-(n+18446744073709551616))=(u:Int))∨(b=false∧IntKind.u64.wrap n=(u:Int)))):=by
  by_cases h0:n<0
  · exact⟨true,decide_eq_true h0,.inl ⟨rfl,wrap_ng1 ⟨hn1,h0⟩,by rw[wrap_ng2 ⟨hn1,h0⟩];omega⟩⟩
  · refine⟨false,decide_eq_false h0,.inr ⟨rfl, ?_⟩⟩;rw[show n=(u:Int) by omega];exact IntWalk.u64_in _ (by omega)
 obtain⟨b,hb,hbw⟩:=hmain;rw[hb]at HLW;clear hs hsl hsz hl2 h11 d1 d2 d3 d4 dl hp hu;rcases hbw with⟨rfl,hv1,hv2⟩|⟨rfl,hv1⟩
 all_goals
  go_enter Tryz.func90,Tryz.ntmps90;go_upto_region 1 with(fail);rw[←HW1.o];go_wp2_with fail;refine HFU.o.mono ?_;rintro e w2 ⟨rfl,hg2⟩;have HG2:Hid (Gq w1 w2):=hg2;clear hg2;go_wp2_with fail;refine(HLM.o w2).mono ?_;rintro e w3 ⟨v,rfl,hv, -,hb3⟩;have HG3:Hid (Gq w1 w3):=HG2.o.trans hb3;have HLX:=Za (HLW.o w3 v hv);clear hv hb3;go_wp2_with fail;refine HLX.o.mono ?_;rintro e w4 ⟨v4,rfl,hv4,hb4⟩;obtain⟨A,L,c,B,M,d,rfl, -, -⟩:=Z0c hv4;have HG4:Hid (Gq w1 w4):=HG3.o.trans (((Gq.refl _).alloc _).trans hb4);obtain⟨y0,y1,y2,r0,r1,r2,r3,r4,r5⟩:=HE.o.cells HG4.o;obtain⟨k2,k3,k4⟩:=HE.o.stored HG4.o (.bool (decide ((mkRat n 1).num<0))) (.slice A L c) (.slice B M d);have HQ:=Za (HE.o.end_ HG4.o _ _ _ hv4);clear hv4 hb4 HLX;generalize decide ((mkRat n 1).num<0)=sg at*;go_wp2_with fail;exact bodyPost_ret (v:= .agg #[.bool sg,.slice A L c,.slice B M d]) (by simp[results,Tryz.results90,go_sem,k2,k3,k4]) rfl HQ.o
theorem numQ_of {w:World}{v:Value}{n d:ByteArray}(hf:Z2h n d=0)(h:Z1f w v (sgT n) (Z0e (boT n)) (Z0e d.data.toList)):Z0d w v (mkRat (Z6x n) (Z0e d.data.toList)):=by
 obtain⟨h1,h2,_⟩:=Z58 hf;unfold Z0d;rw[h1,h2,Z2t,Z9z];have hr:=Z3t hf
 have e:(sgT n && decide (0<Z0e (boT n)))=sgT n:=by
  cases hs:sgT n
  · rfl
  · rw[decide_eq_true (hr.z hs)];rfl
 rw[e];exact h
theorem Z8u (n:Int):(mkRat n 1).num=n∧(mkRat n 1).den=1:=mk_id (by omega) (by simp)
theorem neg_num {w:World}{q:Rat}{A:Option Addr}{L c:Nat}{B:Option Addr}{M d:Nat}{s:Bool}(h1:Z05 w (.slice A L c) q.num.natAbs)(h2:Z05 w (.slice B M d) q.den)(hs:s=decide (-q.num<0)):Z0d w (.agg #[.bool s,.slice A L c,.slice B M d]) (-q):=by
 unfold Z0d;rw[Rat.neg_num,Rat.neg_den,Int.natAbs_neg,hs];exact⟨_,_,rfl,h1,h2⟩
theorem Z3m (va:Value)(q:Rat)(w:World)(h:Z0d w va q):
  Calls Tryz.prog 92 #[va] w (Z20 (-q) w):=by
 obtain⟨s,hs⟩:∃s,decide (q.num<0)=s:=⟨_,rfl⟩;unfold Z0d at h;rw[hs]at h;obtain⟨A,L,c,B,M,d,rfl,hu,hx⟩:=Z0c h;obtain⟨A',c',L',e,hL⟩:=Z3b hu;injection e with e1 e2 e3;subst e2;obtain⟨wa,hwa⟩:∃wa,wa=w.alloc (.cells #[.bool s,.slice A L c,.slice B M d] 85):=⟨_,rfl⟩;obtain⟨w1,hw1⟩:∃w1,w1=wa.alloc (.cells #[.bool false,.slice none 0 0,.slice none 0 0] 85):=⟨_,rfl⟩;have z1:wa.heap.size=w.heap.size+1:=by rw[hwa];simp
 have ba:Gq w wa:=by rw[hwa];exact(Gq.refl _).alloc _
 have bc:Gq wa w1:=by rw[hw1];exact(Gq.refl _).alloc _
 have HE:Hid (NumE w w1 (w.heap.size+1)):=by refine⟨ba.trans bc,by omega, ?_⟩;rw[←z1,hw1];exact NB.new _ _ (Z0h _) (Z03 _ _ _) (Z03 _ _ _)
 have hka:Blk w1 w.heap.size 85 [.bool s,.slice A L c,.slice B M d]:=by refine Z0b (?_:Blk wa w.heap.size _ _) bc;rw[hwa];exact Blk.new w _ _
 have c0:w1.cell? ⟨w.heap.size,0,none⟩=_:=hka.cell 0;have c1:w1.cell? ⟨w.heap.size,1,none⟩=_:=hka.cell 1;have c2:w1.cell? ⟨w.heap.size,2,none⟩=_:=hka.cell 2;simp only[Ze,Zf]at c0 c1 c2;obtain⟨b,hb⟩:∃b,decide (-q.num<0)=b:=⟨_,rfl⟩
 have hbs:(s=true∧b=false)∨(s=false∧b=decide ((0:Int)<(L:Int))):=by
  by_cases h0:q.num<0
  · refine .inl ⟨by rw[←hs];exact decide_eq_true h0,by rw[←hb];exact decide_eq_false (by omega)⟩
  ·
   refine .inr ⟨by rw[←hs];exact decide_eq_false h0, ?_⟩;rw[←hb];by_cases h1:q.num=0
   · have:L=0:=hL.2 (by rw[h1];rfl);rw[decide_eq_false (by omega),decide_eq_false (by omega)]
   · have:L≠0:=fun e=>(by have:=hL.1 e;omega);rw[decide_eq_true (by omega),decide_eq_true (by omega)]
 obtain⟨x0,x1,x2,q0,q1,q2,q3,q4,q5⟩:=HE.o.cells (Gq.refl _);obtain⟨k2,k3,k4⟩:=HE.o.stored (Gq.refl _) (.bool b) (.slice A L c) (.slice B M d);have HQ:=Za (HE.o.end_ (Gq.refl _) _ _ _ (neg_num (s:=b) (hu.below (ba.trans bc)) (hx.below (ba.trans bc)) hb.symm));rw[hwa]at hw1;have HW1:=Za hw1;have hne:w.heap.size≠w.heap.size+1:=by omega
 clear hw1 hwa h hu hx hs hb ba bc hL e1 e3 hka z1;rcases hbs with⟨rfl,rfl⟩|⟨rfl,hbb⟩
 · go_enter Tryz.func92,Tryz.ntmps92;go_upto_region 1 with(fail);rw[←HW1.o];go_wp2_with fail;exact bodyPost_ret (v:= .agg #[.bool false,.slice A L c,.slice B M d]) (by simp[results,Tryz.results92,go_sem,k2,k3,k4]) rfl HQ.o
 · have hbb2:decide ((0:Int)<(L:Int))=b:=hbb.symm;have hbb3:decide (0<L)=b:=(by rw[←hbb2];simp);clear hbb;go_enter Tryz.func92,Tryz.ntmps92;go_upto_region 1 with(fail);rw[←HW1.o];go_wp2_with fail;exact bodyPost_ret (v:= .agg #[.bool b,.slice A L c,.slice B M d]) (by simp[results,Tryz.results92,go_sem,k2,k3,k4]) rfl HQ.o
def ratT (q:Rat):Value:= .agg #[.string ⟨(Z7r q).toArray⟩,.string ⟨(Zbl q).toArray⟩]
theorem outQ_any (va:Value)(q:Rat)(w:World)(h:Z0d w va q)(k:Nat)(hk:Z0i k q)(hk2:k≤100000)(hp:HasPow w):
  Calls Tryz.prog 94 #[va] w fun e w'=>e= .returned (ratT q)∧Below w.heap.size w w':=by
 obtain⟨s,hs⟩:∃s,decide (q.num<0)=s:=⟨_,rfl⟩;unfold Z0d at h;rw[hs]at h;obtain⟨A,L,c,B,M,d,rfl,hu,hx⟩:=Z0c h;obtain⟨wa,hwa⟩:∃wa,wa=w.alloc (.cells #[.bool s,.slice A L c,.slice B M d] 85):=⟨_,rfl⟩;obtain⟨w1,hw1⟩:∃w1,w1=wa.alloc (.cells #[.string ⟨#[]⟩,.string ⟨#[]⟩] 59):=⟨_,rfl⟩;have z1:wa.heap.size=w.heap.size+1:=by rw[hwa];simp
 have ba:Gq w wa:=by rw[hwa];exact(Gq.refl _).alloc _
 have bc:Gq wa w1:=by rw[hw1];exact(Gq.refl _).alloc _
 have HB1:Hid (Gq w w1):=ba.trans bc;have HKA:Hid (Blk w1 w.heap.size 85 [.bool s,.slice A L c,.slice B M d]):=by refine Z0b (?_:Blk wa w.heap.size _ _) bc;rw[hwa];exact Blk.new w _ _
 have HKB:Hid (Blk w1 (w.heap.size+1) 59 [.string ⟨#[]⟩,.string ⟨#[]⟩]):=by rw[hw1,←z1];exact Blk.new wa _ _
 have HDA:Hid (∀W,Gq w1 W→Calls Tryz.prog 95 #[.slice A L c] W (Zb9 (Lib.decDigits q.num.natAbs) W)):=fun W hW=>
  Z2y _ _ W ((hu.below HB1.o).below hW) k hk.1 (by omega) ((hp.below HB1.o).below hW)
 have HDB:Hid (∀W,Gq w1 W→Calls Tryz.prog 95 #[.slice B M d] W (Zb9 (Lib.decDigits q.den) W)):=fun W hW=>
  Z2y _ _ W ((hx.below HB1.o).below hW) k hk.2 (by omega) ((hp.below HB1.o).below hW)
 have htl:(Lib.decDigits q.num.natAbs).length≤10000000:=by have h1:(Lib.decDigits q.num.natAbs).length≤10*k+1:=(by refine Z3s _ _ (by omega) (Nat.lt_of_lt_of_le hk.1 ?_);have e1:W32 ^ k≤(10 ^ 10) ^ k:=Nat.pow_le_pow_left (by decide) k;rw[←Nat.pow_mul]at e1;exact Nat.le_trans e1 (Nat.pow_le_pow_right (by omega) (by omega)));omega
 have HT:Hid (Z7r q=(if s=true then [45]else [])++Lib.decDigits q.num.natAbs):=by
  show _=_;unfold Z7r;rw[←hs];by_cases h0:q.num<0
  · rw[if_pos h0,if_pos (decide_eq_true h0)]
  · rw[if_neg h0,if_neg (by rw[decide_eq_false h0];decide)]
 have HBT:Hid (Zbl q=Lib.decDigits q.den):=rfl;have c0:w1.cell? ⟨w.heap.size,0,none⟩=_:=HKA.o.cell 0;have c1:w1.cell? ⟨w.heap.size,1,none⟩=_:=HKA.o.cell 1;have c2:w1.cell? ⟨w.heap.size,2,none⟩=_:=HKA.o.cell 2;simp only[Ze,Zf]at c0 c1 c2;have HCE:Hid (∀W,Gq w1 W→W.cell? ⟨w.heap.size,0,none⟩=some (.bool s)∧W.cell? ⟨w.heap.size,2,none⟩=some (.slice B M d)∧W.cell? ⟨w.heap.size+1,0,none⟩=some (.string ⟨#[]⟩)∧W.cell? ⟨w.heap.size+1,1,none⟩=some (.string ⟨#[]⟩)∧W.frozen? ⟨w.heap.size+1,0,none⟩=false∧W.frozen? ⟨w.heap.size+1,1,none⟩=false):=fun W hW=>by have k1:=Z0b HKA.o hW;have k2:=Z0b HKB.o hW;exact⟨k1.cell 0,k1.cell 2,k2.cell 0,k2.cell 1,k2.frozen 0,k2.frozen 1⟩
 have HEND:Hid (∀W x y,Gq w1 W→(((W.setCell ⟨w.heap.size+1,0,none⟩ x).setCell ⟨w.heap.size+1,1,none⟩ y).cell? ⟨w.heap.size+1,0,none⟩=some x∧((W.setCell ⟨w.heap.size+1,0,none⟩ x).setCell ⟨w.heap.size+1,1,none⟩ y).cell? ⟨w.heap.size+1,1,none⟩=some y)∧Below w.heap.size w ((W.setCell ⟨w.heap.size+1,0,none⟩ x).setCell ⟨w.heap.size+1,1,none⟩ y)):=fun W x y hW=>by have k2:=((Z0b HKB.o hW).set_ 0 x).set_ 1 y;refine⟨⟨k2.cell 0,k2.cell 1⟩, ?_⟩;exact((HB1.o.trans hW).set (p:=⟨w.heap.size+1,0,none⟩) (by show w.heap.size≤w.heap.size+1;omega) x).set (p:=⟨w.heap.size+1,1,none⟩) (by show w.heap.size≤w.heap.size+1;omega) y
 rw[hwa]at hw1;have HW1:=Za hw1;have hne:w.heap.size≠w.heap.size+1:=by omega
 obtain⟨T,hT⟩:∃T:ByteArray,T=⟨(Lib.decDigits q.num.natAbs).toArray⟩:=⟨_,rfl⟩;obtain⟨U,hU⟩:∃U:ByteArray,U=⟨(Lib.decDigits q.den).toArray⟩:=⟨_,rfl⟩;have hTs:T.size≤10000000:=by rw[hT,Z5i];exact htl
 unfold Zb9 at HDA HDB;rw[←hT]at HDA;rw[←hU]at HDB;have hcat:∀z:ByteArray,z=(⟨#[45]⟩:ByteArray)++T→s=true→z=⟨(Z7r q).toArray⟩:=fun z hz hs1=>by rw[hz,HT.o,hs1,hT,if_pos rfl];apply Z1w;simp
 have hno:s=false→T=⟨(Z7r q).toArray⟩:=fun hs1=>by rw[HT.o,hs1,hT];rfl
 have hbot:U=⟨(Zbl q).toArray⟩:=by rw[HBT.o,hU]
 have HCAT:=Za hcat;have HNO:=Za hno;have HBOT:=Za hbot;clear hw1 hwa h hu hx hs ba bc z1 hT hU htl hk hp hcat hno hbot HKA HKB;unfold ratT;cases s
 · rw[←HNO.o rfl,←HBOT.o];go_enter Tryz.func94,Tryz.ntmps94;go_upto_region 1 with(fail);rw[←HW1.o];go_wp2_with fail;refine(HDA.o _ (Gq.refl _)).mono ?_;rintro e w2 ⟨rfl,hg2⟩;have HG2:Hid (Gq w1 w2):=hg2;obtain⟨e0,e2, -⟩:=HCE.o _ HG2.o;clear hg2 c0 c1 c2;go_wp2_with fail;refine(HDB.o _ HG2.o).mono ?_;rintro e w3 ⟨rfl,hg3⟩;have HG3:Hid (Gq w1 w3):=HG2.o.trans hg3;obtain⟨-, -,e3,e4,e5,e6⟩:=HCE.o _ HG3.o;obtain⟨⟨k2,k3⟩,hb⟩:=HEND.o w3 (.string T) (.string U) HG3.o;have HB:=Za hb;clear hg3 e0 e2 hb;go_wp2_with fail;exact bodyPost_ret (v:= .agg #[.string T,.string U]) (by simp[results,Tryz.results94,go_sem,k2,k3]) rfl ⟨rfl,HB.o⟩
 · obtain⟨Z,hZ⟩:∃Z:ByteArray,(⟨#[45]⟩:ByteArray)++T=Z:=⟨_,rfl⟩;rw[←HCAT.o Z hZ.symm rfl,←HBOT.o];go_enter Tryz.func94,Tryz.ntmps94;go_upto_region 1 with(fail);rw[←HW1.o];go_wp2_with fail;refine(HDA.o _ (Gq.refl _)).mono ?_;rintro e w2 ⟨rfl,hg2⟩;have HG2:Hid (Gq w1 w2):=hg2;obtain⟨e0,e2, -⟩:=HCE.o _ HG2.o;clear hg2 c0 c1 c2;go_wp2_with fail;refine(HDB.o _ HG2.o).mono ?_;rintro e w3 ⟨rfl,hg3⟩;have HG3:Hid (Gq w1 w3):=HG2.o.trans hg3;obtain⟨-, -,e3,e4,e5,e6⟩:=HCE.o _ HG3.o;obtain⟨⟨k2,k3⟩,hb⟩:=HEND.o w3 (.string Z) (.string U) HG3.o;have HB:=Za hb;clear hg3 e0 e2 hb hZ;go_wp2_with fail;exact bodyPost_ret (v:= .agg #[.string Z,.string U]) (by simp[results,Tryz.results94,go_sem,k2,k3]) rfl ⟨rfl,HB.o⟩
end Go.Proofs.YtcemlhbfemenpaaGreatDoor
