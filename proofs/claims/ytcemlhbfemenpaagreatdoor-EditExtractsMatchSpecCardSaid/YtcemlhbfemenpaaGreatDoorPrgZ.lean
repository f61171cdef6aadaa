/- Several texts laid into one: Generated (gen/cmq.py): the contracts of num.Int's and num.Rat's Cmp; A row of the call's own, where a box below it is written; Generated (gen/crv.py): the contracts of edit.curveOf and of its function; a function value that answers quotients; Generated (gen/bnt.py): the contract of curve's bent; slices.Sort and slices.Compact at a row of integers of the call's own; The contract of curve's inside; Generated (gen/plna.py): the contract of curve's plain and of its function; Plain: where the points of the program's plain envelope lie; The contract of edit.part; The contract of edit.cut; The contracts of both checkSpans, and of the reference's onTracks and checkTracks at no tracks; Generated (gen/exa.py): the contract of edit.Extract; -/
import Derived.Test.YtcemlhbfemenpaaGreatDoorApdZ
import Derived.Test.YtcemlhbfemenpaaGreatDoorVal
import Derived.Test.YtcemlhbfemenpaaGreatDoorCuvZ
import Derived.Laws.EntriesVeiled
import Derived.Test.YtcemlhbfemenpaaGreatDoorShSrt
import Derived.Sort.OwnSortedInts
import Derived.Test.YtcemlhbfemenpaaGreatDoorNatY
set_option maxHeartbeats 32000000
set_option maxRecDepth 100000
namespace Go.Proofs.YtcemlhbfemenpaaGreatDoor
open Go.RowKit Go.Dw
open Go.Dwo (fcL fcN fcK fcZ fcG fcE fcD fcV fcC fcP Z00)
attribute [local go_sem ↓] Go.wp_at_zero Go.wp_at_succ
attribute [local go_sem] Go.Dwo.Oper.tame Go.Dwo.actOf List.getD_cons_zero List.getD_cons_succ
theorem natI {w:World}{A:Option Addr}{L c n:Nat}(h:Z09 w (.slice A L c) n):Z1a w (.agg #[.bool false,.slice A L c]) (n:Int):=
 ⟨_,by rw[decide_eq_false (show ¬((n:Int)<0) by omega)],by simpa using h⟩
theorem Zb7 (a b:Nat):Z27 a b=Z1x a b:=by
 unfold Z27 Z1x
 split
 · rw[if_pos (by omega)]
 ·
  split
  · rw[if_neg (by omega),if_neg (by omega)]
  · rw[if_neg (by omega),if_pos (by omega)]
theorem icmp_any (va vb:Value)(a b:Int)(w:World)(h:Z1a w va a)(g:Z1a w vb b)(k:Nat)(hk:Lim k a.natAbs)(gk:Lim k b.natAbs)(hk2:k≤1099511627776):
  Calls Tryz.prog 120 #[va,vb] w fun e w'=>e= .returned (.int .i64 (Z1x a b))∧Gq w w':=by
 obtain⟨u,rfl,hu⟩:=h;obtain⟨u',rfl,gu⟩:=g;obtain⟨A,L,c,rfl⟩:=Z01 hu;obtain⟨B,M,d,rfl⟩:=Z01 gu;obtain⟨w1,hw1⟩:∃w1,w1=(w.alloc (.cells #[.bool (decide (a<0)),.slice A L c] 114)).alloc (.cells #[.bool (decide (b<0)),.slice B M d] 114):=⟨_,rfl⟩;have hg1:Gq w w1:=by rw[hw1];exact((Gq.refl _).alloc _).alloc _
 have HG1:=Za hg1;have HC1:Hid (Calls Tryz.prog 126 #[.slice A L c,.slice B M d] w1 fun e w'=>e= .returned (.int .i64 (Z27 a.natAbs b.natAbs))∧Gq w1 w'):=(Z21 _ _ _ _ w1 (hu.below hg1) (gu.below hg1) k hk gk hk2).mono fun e w' ⟨h1,h2⟩=>⟨h1,h2.below⟩;have HC2:Hid (Calls Tryz.prog 126 #[.slice B M d,.slice A L c] w1 fun e w'=>e= .returned (.int .i64 (Z27 b.natAbs a.natAbs))∧Gq w1 w'):=(Z21 _ _ _ _ w1 (gu.below hg1) (hu.below hg1) k gk hk hk2).mono fun e w' ⟨h1,h2⟩=>⟨h1,h2.below⟩;have HW1:=Za hw1;obtain⟨sa,hsa⟩:∃s,decide (a<0)=s:=⟨_,rfl⟩;obtain⟨sb,hsb⟩:∃s,decide (b<0)=s:=⟨_,rfl⟩;obtain⟨r,hr⟩:∃r,Z1x a b=r:=⟨_,rfl⟩;have HR1:Hid (sa=true→sb=false→r= -1):=fun h1 h2=>by have k1:=of_decide_eq_true (hsa.trans h1);have k2:=of_decide_eq_false (hsb.trans h2);rw[←hr];unfold Z1x;rw[if_pos (by omega)]
 have HR2:Hid (sa=false→sb=true→r=1):=fun h1 h2=>by have k1:=of_decide_eq_false (hsa.trans h1);have k2:=of_decide_eq_true (hsb.trans h2);rw[←hr];unfold Z1x;rw[if_neg (by omega),if_pos (by omega)]
 have HR3:Hid (sa=true→sb=true→Z27 b.natAbs a.natAbs=r):=fun h1 h2=>by
  have k1:=of_decide_eq_true (hsa.trans h1);have k2:=of_decide_eq_true (hsb.trans h2);rw[←hr,Zb7];unfold Z1x;by_cases h3:a<b
  · rw[if_pos h3,if_pos (by omega)]
  ·
   rw[if_neg h3,if_neg (by omega)];by_cases h4:b<a
   · rw[if_pos h4,if_pos (by omega)]
   · rw[if_neg h4,if_neg (by omega)]
 have HR4:Hid (sa=false→sb=false→Z27 a.natAbs b.natAbs=r):=fun h1 h2=>by
  have k1:=of_decide_eq_false (hsa.trans h1);have k2:=of_decide_eq_false (hsb.trans h2);rw[←hr,Zb7];unfold Z1x;by_cases h3:a<b
  · rw[if_pos h3,if_pos (by omega)]
  ·
   rw[if_neg h3,if_neg (by omega)];by_cases h4:b<a
   · rw[if_pos h4,if_pos (by omega)]
   · rw[if_neg h4,if_neg (by omega)]
 rw[hsa,hsb]at HW1;rw[hsa,hsb,hr];clear hw1 hg1 hu gu hsa hsb hr hk gk hk2;have a0:w1.cell? ⟨w.heap.size,0,none⟩=some (.bool sa):=by rw[HW1.o];exact(((Blk.new w 114 [.bool sa,.slice A L c]).same (Same.alloc (S:=fun _=>True) _ _) trivial)).cell 0
 have a1:w1.cell? ⟨w.heap.size,1,none⟩=some (.slice A L c):=by rw[HW1.o];exact(((Blk.new w 114 [.bool sa,.slice A L c]).same (Same.alloc (S:=fun _=>True) _ _) trivial)).cell 1
 have kb:Blk w1 (w.heap.size+1) 114 [.bool sb,.slice B M d]:=by rw[HW1.o];have k2:=Blk.new (w.alloc (.cells #[.bool sa,.slice A L c] 114)) 114 [.bool sb,.slice B M d];rw[show(w.alloc (.cells #[.bool sa,.slice A L c] 114)).heap.size=w.heap.size+1 by simp]at k2;exact k2
 have b0:w1.cell? ⟨w.heap.size+1,0,none⟩=some (.bool sb):=kb.cell 0;have b1:w1.cell? ⟨w.heap.size+1,1,none⟩=some (.slice B M d):=kb.cell 1;clear kb;go_enter Tryz.func120,Tryz.ntmps120;go_upto_region 1 with(fail);rw[←HW1.o];cases sa with
 |true=>
  cases sb with
  |true=>
   go_wp2_with fail;refine HC2.o.mono ?_;rintro e w2 ⟨rfl,hg⟩;have HG2:=Za hg;clear hg;go_wp2_with fail;go_ret;exact⟨by have h:=HR3.o (by first|rfl|trivial) (by first|rfl|trivial);subst h;rfl,HG1.o.trans HG2.o⟩
  |false=>
   go_wp2_with fail;go_ret;exact⟨by have h:=HR1.o (by first|rfl|trivial) (by first|rfl|trivial);subst h;rfl,HG1.o⟩
 |false=>
  cases sb with
  |true=>
   go_wp2_with fail;go_ret;exact⟨by have h:=HR2.o (by first|rfl|trivial) (by first|rfl|trivial);subst h;rfl,HG1.o⟩
  |false=>
   go_wp2_with fail;refine HC1.o.mono ?_;rintro e w2 ⟨rfl,hg⟩;have HG2:=Za hg;clear hg;go_wp2_with fail;go_ret;exact⟨by have h:=HR4.o (by first|rfl|trivial) (by first|rfl|trivial);subst h;rfl,HG1.o.trans HG2.o⟩
def cmqF (w0:World)(g:Nat)(sa sb:Bool)(A:Option Addr)(L c:Nat)(A':Option Addr)(L' c':Nat)(B:Option Addr)(M d:Nat)(B':Option Addr)(M' d':Nat)(p q:Rat):List Go.Dwo.Fact:= [
 ⟨[],[],fun _ W=>Gq w0 W∧Blk W g 116 [.bool sa,.slice A L c,.slice A' L' c']∧Blk W (g+1) 116 [.bool sb,.slice B M d,.slice B' M' d']∧(Z1a W (.agg #[.bool sa,.slice A L c]) p.num∧Z09 W (.slice A' L' c') p.den)∧Z1a W (.agg #[.bool sb,.slice B M d]) q.num∧Z09 W (.slice B' M' d') q.den⟩,
 ⟨[0],[],fun vs _=>vs 0= .pointer (some ⟨g,0,none⟩)⟩,
 ⟨[1],[],fun vs _=>vs 1= .agg #[.bool sa,.slice A L c]⟩,
 ⟨[2],[],fun vs _=>vs 2= .pointer (some ⟨g+1,2,none⟩)⟩,
 ⟨[3],[],fun vs _=>vs 3= .slice B' M' d'⟩,
 ⟨[4],[],fun vs _=>vs 4= .agg #[.bool false,.slice B' M' d']⟩,
 ⟨[5],[],fun vs W=>∃s X N o,vs 5= .agg #[.bool s,.slice X N o]∧Z1a W (.agg #[.bool s,.slice X N o]) (p.num*q.den)⟩,
 ⟨[6],[],fun vs _=>vs 6= .pointer (some ⟨g+1,0,none⟩)⟩,
 ⟨[7],[],fun vs _=>vs 7= .agg #[.bool sb,.slice B M d]⟩,
 ⟨[8],[],fun vs _=>vs 8= .pointer (some ⟨g,2,none⟩)⟩,
 ⟨[9],[],fun vs _=>vs 9= .slice A' L' c'⟩,
 ⟨[10],[],fun vs _=>vs 10= .agg #[.bool false,.slice A' L' c']⟩,
 ⟨[11],[],fun vs W=>∃s X N o,vs 11= .agg #[.bool s,.slice X N o]∧Z1a W (.agg #[.bool s,.slice X N o]) (q.num*p.den)⟩,
 ⟨[12],[],fun vs _=>vs 12= .int .i64 (Z1x (p.num*q.den) (q.num*p.den))⟩,
 ⟨[13],[],fun vs _=>vs 13= .int .i64 (Z1x (p.num*q.den) (q.num*p.den))⟩]
theorem cmqK (w0:World)(g:Nat)(sa sb:Bool)(A:Option Addr)(L c:Nat)(A':Option Addr)(L' c':Nat)(B:Option Addr)(M d:Nat)(B':Option Addr)(M' d':Nat)(p q:Rat):∀f∈cmqF w0 g sa sb A L c A' L' c' B M d B' M' d' p q,∀vs w w',Gq w w'→f.says vs w→f.says vs w':=
 fcL (fun _ _ _ hg h=>⟨h.1.trans hg,Z0u h.2.1 hg,Z0u h.2.2.1 hg,⟨h.2.2.2.1.1.below hg,h.2.2.2.1.2.below hg⟩,h.2.2.2.2.1.below hg,h.2.2.2.2.2.below hg⟩)<|fcL (fun _ _ _ _ h=>h)<|fcL (fun _ _ _ _ h=>h)<|fcL (fun _ _ _ _ h=>h)<|fcL (fun _ _ _ _ h=>h)<|fcL (fun _ _ _ _ h=>h)<|fcL (fun _ _ _ hg h=>(by obtain⟨s,X,N,o,h1,h2⟩:=h;exact⟨s,X,N,o,h1,h2.below hg⟩))<|fcL (fun _ _ _ _ h=>h)<|fcL (fun _ _ _ _ h=>h)<|fcL (fun _ _ _ _ h=>h)<|fcL (fun _ _ _ _ h=>h)<|fcL (fun _ _ _ _ h=>h)<|fcL (fun _ _ _ hg h=>(by obtain⟨s,X,N,o,h1,h2⟩:=h;exact⟨s,X,N,o,h1,h2.below hg⟩))<|fcL (fun _ _ _ _ h=>h)<|fcL (fun _ _ _ _ h=>h)<|fcN _
def Z4n (p q:Rat):Int:=Z1x (p.num*q.den) (q.num*p.den)
theorem Z1t (p q:Rat):Z4n p q=0↔p=q:=by
 unfold Z4n Z1x;have h:p.num*q.den=q.num*p.den↔p=q:=by rw[←Rat.mkRat_eq_iff p.den_nz q.den_nz,Rat.mkRat_self,Rat.mkRat_self]
 rw[←h]
 split
 · constructor<;>intro<;>omega
 ·
  split
  · constructor<;>intro<;>omega
  · constructor<;>intro<;>omega
theorem Z4v (va vb:Value)(p q:Rat)(w0:World)(h:Z10 w0 va p)(g:Z10 w0 vb q)(k:Nat)(hk:Z0i k p)(gk:Z0i k q)(hk2:k+k≤549755813888):
  Calls Tryz.prog 79 #[va,vb] w0 fun e w'=>e= .returned (.int .i64 (Z4n p q))∧Gq w0 w':=by
 obtain⟨u,x,rfl,hu,hx,hpd⟩:=h;obtain⟨u',y,rfl,gu,gy,hqd⟩:=g;obtain⟨sa,hsa⟩:∃s,decide (p.num<0)=s:=⟨_,rfl⟩;obtain⟨sb,hsb⟩:∃s,decide (q.num<0)=s:=⟨_,rfl⟩;rw[hsa,hsb];obtain⟨A,L,c,rfl⟩:=Z01 hu;obtain⟨A',L',c',rfl⟩:=Z01 hx;obtain⟨B,M,d,rfl⟩:=Z01 gu;obtain⟨B',M',d',rfl⟩:=Z01 gy;have hia:Z1a w0 (.agg #[.bool sa,.slice A L c]) p.num:=⟨_,by rw[hsa],hu⟩;have hib:Z1a w0 (.agg #[.bool sb,.slice B M d]) q.num:=⟨_,by rw[hsb],gu⟩;obtain⟨g,hg⟩:∃g,w0.heap.size=g:=⟨_,rfl⟩;obtain⟨wa,hwa⟩:∃wa,wa=w0.alloc (.cells #[.bool sa,.slice A L c,.slice A' L' c'] 116):=⟨_,rfl⟩;obtain⟨w1,hw1⟩:∃w1,w1=wa.alloc (.cells #[.bool sb,.slice B M d,.slice B' M' d'] 116):=⟨_,rfl⟩;have hza:wa.heap.size=g+1:=by rw[hwa];simp;omega
 have hga:Gq w0 wa:=by rw[hwa];exact(Gq.refl _).alloc _
 have hgb:Gq wa w1:=by rw[hw1];exact(Gq.refl _).alloc _
 have HBASE:Hid (Gq w0 w1.drew∧Blk w1.drew g 116 [.bool sa,.slice A L c,.slice A' L' c']∧Blk w1.drew (g+1) 116 [.bool sb,.slice B M d,.slice B' M' d']∧(Z1a w1.drew (.agg #[.bool sa,.slice A L c]) p.num∧Z09 w1.drew (.slice A' L' c') p.den)∧Z1a w1.drew (.agg #[.bool sb,.slice B M d]) q.num∧Z09 w1.drew (.slice B' M' d') q.den):=by
  have hd:Gq w1 w1.drew:=(Gq.refl _).drew;have hh:=(hga.trans hgb).trans hd;refine⟨hh,Z0u (?_:Blk wa g _ _) (hgb.trans hd),Z0u (?_:Blk w1 (g+1) _ _) hd,⟨hia.below hh,hx.below hh⟩,hib.below hh,gy.below hh⟩
  · rw[hwa,←hg];exact Blk.new w0 _ _
  · rw[hw1,←hza];exact Blk.new wa _ _
 have HK:Hid (Z0i k p∧Z0i k q∧k+k≤549755813888):=⟨hk,gk,hk2⟩;rw[hwa]at hw1;have HW1:=Za hw1;have HG:=Za hg;clear hw1 hwa hu hx gu gy hpd hqd hsa hsb hia hib hza hga hgb hk gk hk2;go_enter Tryz.func79,Tryz.ntmps79;go_upto_region 1 with(fail);rw[←HW1.o];try simp only[hg]
 clear hg;refine Z00 _ (by kernel_rfl) [[],[0],[],[2],[2,3],[0,1,2,3,4],[],[6],[],[8],[8,9],[6,7,8,9,10],[0,1,2,3,4,5,6,7,8,9,10,11],[0,1,2,3,4,5,6,7,8,9,10,11,12]] (by kernel_rfl) (by kernel_rfl) [some 5,some 6,some 7,some 8,some 9,some 10,some 11,some 12,some 13,some 14,some 15,some 16,some 17,some 4] (by kernel_rfl) (fun vs=>by simp only[Go.Dwo.putA,Go.Dwo.putL,if_true,Act.put,Zb,Zc,Zd];rfl) (cmqF w0 g sa sb A L c A' L' c' B M d B' M' d' p q) (by kernel_rfl) ?_ ⟨?_, ?_, ?_, ?_, ?_, ?_, ?_, ?_, ?_, ?_, ?_, ?_, ?_, ?_,trivial⟩ ?_
 · exact fcZ [0] rfl<|fcL (HBASE.o)<|fcN _
 · intro Ls vs w Kk H hu hD hK;go_simp;exact fcV hK (fcP 1 rfl rfl fun _=>rfl)
 · intro Ls vs w Kk H hu hD hK;obtain⟨h0,ka,kb,⟨va,vx⟩,vb,vy⟩:Gq w0 w∧Blk w g 116 [.bool sa,.slice A L c,.slice A' L' c']∧Blk w (g+1) 116 [.bool sb,.slice B M d,.slice B' M' d']∧(Z1a w (.agg #[.bool sa,.slice A L c]) p.num∧Z09 w (.slice A' L' c') p.den)∧Z1a w (.agg #[.bool sb,.slice B M d]) q.num∧Z09 w (.slice B' M' d') q.den:=fcG H hu hD 0 rfl rfl rfl;have f0:vs 0= .pointer (some ⟨g,0,none⟩):=fcG H hu hD 1 rfl rfl rfl;have d0:w.cell? ⟨g,0,none⟩=_:=ka.cell 0;simp only[Ze]at d0;have d1:w.cell? ⟨g,1,none⟩=_:=ka.cell 1;simp only[Ze,Zf]at d1;go_simp;exact fcV hK (fcP 2 rfl rfl fun _=>rfl)
 · intro Ls vs w Kk H hu hD hK;go_simp;exact fcV hK (fcP 3 rfl rfl fun _=>rfl)
 · intro Ls vs w Kk H hu hD hK;obtain⟨h0,ka,kb,⟨va,vx⟩,vb,vy⟩:Gq w0 w∧Blk w g 116 [.bool sa,.slice A L c,.slice A' L' c']∧Blk w (g+1) 116 [.bool sb,.slice B M d,.slice B' M' d']∧(Z1a w (.agg #[.bool sa,.slice A L c]) p.num∧Z09 w (.slice A' L' c') p.den)∧Z1a w (.agg #[.bool sb,.slice B M d]) q.num∧Z09 w (.slice B' M' d') q.den:=fcG H hu hD 0 rfl rfl rfl;have f2:vs 2= .pointer (some ⟨g+1,2,none⟩):=fcG H hu hD 3 rfl rfl rfl;have d2:w.cell? ⟨g+1,2,none⟩=_:=kb.cell 2;simp only[Ze,Zf]at d2;go_simp;exact fcV hK (fcP 4 rfl rfl fun _=>rfl)
 · intro Ls vs w Kk H hu hD hK;have f3:vs 3= .slice B' M' d':=fcG H hu hD 4 rfl rfl rfl;go_simp;exact fcV hK (fcP 5 rfl rfl fun _=>rfl)
 · intro Ls vs w Kk H hu hD hK;obtain⟨h0,ka,kb,⟨va,vx⟩,vb,vy⟩:Gq w0 w∧Blk w g 116 [.bool sa,.slice A L c,.slice A' L' c']∧Blk w (g+1) 116 [.bool sb,.slice B M d,.slice B' M' d']∧(Z1a w (.agg #[.bool sa,.slice A L c]) p.num∧Z09 w (.slice A' L' c') p.den)∧Z1a w (.agg #[.bool sb,.slice B M d]) q.num∧Z09 w (.slice B' M' d') q.den:=fcG H hu hD 0 rfl rfl rfl;have f1:vs 1= .agg #[.bool sa,.slice A L c]:=fcG H hu hD 2 rfl rfl rfl;have f4:vs 4= .agg #[.bool false,.slice B' M' d']:=fcG H hu hD 5 rfl rfl rfl;go_simp;refine(Z48 _ _ p.num q.den w va (natI vy) k k HK.o.1.1 HK.o.2.1.2 (by have:=HK.o.2.2;omega)).mono ?_;rintro e w' ⟨v,rfl,⟨u,rfl,hu⟩,hb⟩;obtain⟨X,N,o,rfl⟩:=Z01 hu;exact⟨_,rfl,fcC hK (fun f hf _ h=>cmqK w0 g sa sb A L c A' L' c' B M d B' M' d' p q f hf _ _ _ hb h) (fcP 6 rfl rfl fun _=>⟨_,X,N,o,rfl,_,rfl,hu⟩)⟩
 · intro Ls vs w Kk H hu hD hK;go_simp;exact fcV hK (fcP 7 rfl rfl fun _=>rfl)
 · intro Ls vs w Kk H hu hD hK;obtain⟨h0,ka,kb,⟨va,vx⟩,vb,vy⟩:Gq w0 w∧Blk w g 116 [.bool sa,.slice A L c,.slice A' L' c']∧Blk w (g+1) 116 [.bool sb,.slice B M d,.slice B' M' d']∧(Z1a w (.agg #[.bool sa,.slice A L c]) p.num∧Z09 w (.slice A' L' c') p.den)∧Z1a w (.agg #[.bool sb,.slice B M d]) q.num∧Z09 w (.slice B' M' d') q.den:=fcG H hu hD 0 rfl rfl rfl;have f6:vs 6= .pointer (some ⟨g+1,0,none⟩):=fcG H hu hD 7 rfl rfl rfl;have d0:w.cell? ⟨g+1,0,none⟩=_:=kb.cell 0;simp only[Ze]at d0;have d1:w.cell? ⟨g+1,1,none⟩=_:=kb.cell 1;simp only[Ze,Zf]at d1;go_simp;exact fcV hK (fcP 8 rfl rfl fun _=>rfl)
 · intro Ls vs w Kk H hu hD hK;go_simp;exact fcV hK (fcP 9 rfl rfl fun _=>rfl)
 · intro Ls vs w Kk H hu hD hK;obtain⟨h0,ka,kb,⟨va,vx⟩,vb,vy⟩:Gq w0 w∧Blk w g 116 [.bool sa,.slice A L c,.slice A' L' c']∧Blk w (g+1) 116 [.bool sb,.slice B M d,.slice B' M' d']∧(Z1a w (.agg #[.bool sa,.slice A L c]) p.num∧Z09 w (.slice A' L' c') p.den)∧Z1a w (.agg #[.bool sb,.slice B M d]) q.num∧Z09 w (.slice B' M' d') q.den:=fcG H hu hD 0 rfl rfl rfl;have f8:vs 8= .pointer (some ⟨g,2,none⟩):=fcG H hu hD 9 rfl rfl rfl;have d2:w.cell? ⟨g,2,none⟩=_:=ka.cell 2;simp only[Ze,Zf]at d2;go_simp;exact fcV hK (fcP 10 rfl rfl fun _=>rfl)
 · intro Ls vs w Kk H hu hD hK;have f9:vs 9= .slice A' L' c':=fcG H hu hD 10 rfl rfl rfl;go_simp;exact fcV hK (fcP 11 rfl rfl fun _=>rfl)
 · intro Ls vs w Kk H hu hD hK;obtain⟨h0,ka,kb,⟨va,vx⟩,vb,vy⟩:Gq w0 w∧Blk w g 116 [.bool sa,.slice A L c,.slice A' L' c']∧Blk w (g+1) 116 [.bool sb,.slice B M d,.slice B' M' d']∧(Z1a w (.agg #[.bool sa,.slice A L c]) p.num∧Z09 w (.slice A' L' c') p.den)∧Z1a w (.agg #[.bool sb,.slice B M d]) q.num∧Z09 w (.slice B' M' d') q.den:=fcG H hu hD 0 rfl rfl rfl;have f7:vs 7= .agg #[.bool sb,.slice B M d]:=fcG H hu hD 8 rfl rfl rfl;have f10:vs 10= .agg #[.bool false,.slice A' L' c']:=fcG H hu hD 11 rfl rfl rfl;go_simp;refine(Z48 _ _ q.num p.den w vb (natI vx) k k HK.o.2.1.1 HK.o.1.2 (by have:=HK.o.2.2;omega)).mono ?_;rintro e w' ⟨v,rfl,⟨u,rfl,hu⟩,hb⟩;obtain⟨X,N,o,rfl⟩:=Z01 hu;exact⟨_,rfl,fcC hK (fun f hf _ h=>cmqK w0 g sa sb A L c A' L' c' B M d B' M' d' p q f hf _ _ _ hb h) (fcP 12 rfl rfl fun _=>⟨_,X,N,o,rfl,_,rfl,hu⟩)⟩
 · intro Ls vs w Kk H hu hD hK;obtain⟨s5,X5,N5,o5,e5,v5⟩:∃s X N o,vs 5= .agg #[.bool s,.slice X N o]∧Z1a w (.agg #[.bool s,.slice X N o]) (p.num*q.den):=fcG H hu hD 6 rfl rfl rfl;obtain⟨s11,X11,N11,o11,e11,v11⟩:∃s X N o,vs 11= .agg #[.bool s,.slice X N o]∧Z1a w (.agg #[.bool s,.slice X N o]) (q.num*p.den):=fcG H hu hD 12 rfl rfl rfl;go_simp;refine(icmp_any _ _ _ _ w v5 v11 (k+k) (Z1n HK.o.1.1 (by simpa using HK.o.2.1.2)) (Z1n HK.o.2.1.1 (by simpa using HK.o.1.2)) (by have:=HK.o.2.2;omega)).mono ?_;rintro e w' ⟨rfl,hb⟩;exact⟨_,rfl,fcC hK (fun f hf _ h=>cmqK w0 g sa sb A L c A' L' c' B M d B' M' d' p q f hf _ _ _ hb h) (fcP 13 rfl rfl fun _=>rfl)⟩
 · intro Ls vs w Kk H hu hD hK;have f12:vs 12= .int .i64 (Z1x (p.num*q.den) (q.num*p.den)):=fcG H hu hD 13 rfl rfl rfl;go_simp;exact fcV hK (fcP 14 rfl rfl fun _=>rfl)
 · intro vs w H;obtain⟨h0,ka,kb,⟨va,vx⟩,vb,vy⟩:Gq w0 w∧Blk w g 116 [.bool sa,.slice A L c,.slice A' L' c']∧Blk w (g+1) 116 [.bool sb,.slice B M d,.slice B' M' d']∧(Z1a w (.agg #[.bool sa,.slice A L c]) p.num∧Z09 w (.slice A' L' c') p.den)∧Z1a w (.agg #[.bool sb,.slice B M d]) q.num∧Z09 w (.slice B' M' d') q.den:=fcE H 0 rfl rfl;have f0:vs 0= .pointer (some ⟨g,0,none⟩):=fcE H 1 rfl rfl;have f1:vs 1= .agg #[.bool sa,.slice A L c]:=fcE H 2 rfl rfl;have f2:vs 2= .pointer (some ⟨g+1,2,none⟩):=fcE H 3 rfl rfl;have f3:vs 3= .slice B' M' d':=fcE H 4 rfl rfl;have f4:vs 4= .agg #[.bool false,.slice B' M' d']:=fcE H 5 rfl rfl;have f6:vs 6= .pointer (some ⟨g+1,0,none⟩):=fcE H 7 rfl rfl;have f7:vs 7= .agg #[.bool sb,.slice B M d]:=fcE H 8 rfl rfl;have f8:vs 8= .pointer (some ⟨g,2,none⟩):=fcE H 9 rfl rfl;have f9:vs 9= .slice A' L' c':=fcE H 10 rfl rfl;have f10:vs 10= .agg #[.bool false,.slice A' L' c']:=fcE H 11 rfl rfl;have f12:vs 12= .int .i64 (Z1x (p.num*q.den) (q.num*p.den)):=fcE H 13 rfl rfl;have f13:vs 13= .int .i64 (Z1x (p.num*q.den) (q.num*p.den)):=fcE H 14 rfl rfl;clear H;simp only[Nat.zero_add,Nat.reduceAdd];have HFIN:Hid (Gq w0 w):=h0;clear h0 ka kb va vx vb vy;simp only[f13];clear f0 f1 f2 f3 f4 f6 f7 f8 f9 f10 f12 f13;generalize vs 5=z5,vs 11=z11;go_wp2_with fail;go_ret;exact⟨rfl,HFIN.o⟩
end Go.Proofs.YtcemlhbfemenpaaGreatDoor
namespace Go.Proofs.YtcemlhbfemenpaaGreatDoor
open Go.RowKit Go.Dw
theorem Zb8 {B size n g:Nat}{e:TypeId}{v:Value}{xs:List Value}(hg:g<B):∀(vs:List Value) (W:World) (i:Nat),W.ownsRow B e size v n xs→(Z4s W g i vs).ownsRow B e size v n xs
 | [],_,_,h=>h
 |u::vs,_,i,h=>Zb8 hg vs _ (i+1) (Z9j h (p:=⟨g,i,none⟩) hg u)
attribute [local go_sem ↓] Go.wp_at_zero Go.wp_at_succ
theorem Z8o {e:List Pnt}{ln i:Int}(h:Z3r ln e=0)(hl:ln≤100000)(hi:0≤i∧i<100000):Z0i 300 (Z38 e i):=by
 obtain⟨h1,h2,h3⟩:=Z1k h;have hg:∀k,k<e.length→Z0i 40 (Z07 (e.getD k Z0j))∧0≤(e.getD k Z0j).at_∧(e.getD k Z0j).at_<ln:=fun k hk=>by have hm:e.getD k Z0j∈e:=(by rw[Zg,Zi hk];exact Zn hk);have hp:=h3 _ hm;exact⟨(Z63 hp).1,hp.a⟩
 unfold Z38
 split
 · exact(hg 0 h1).1.mono (by omega)
 ·
  split
  · exact(hg _ (by omega)).1.mono (by omega)
  ·
   rename_i q1 q2
   have hle:=Z4q e i;obtain⟨a1,a2,a3⟩:=hg (Z18 e i - 1) (by omega);obtain⟨b1,b2,b3⟩:=hg (Z18 e i) (by omega);unfold Z7v;have hd:Z0i 81 (Z07 (e.getD (Z18 e i) Z0j) - Z07 (e.getD (Z18 e i - 1) Z0j)):=(Z0i.sub b1 a1).mono (by omega);have hinc:=Z42 h (Z18 e i - 1) (by omega);rw[show Z18 e i - 1+1=Z18 e i by omega]at hinc;generalize (e.getD (Z18 e i) Z0j)=q at*;generalize (e.getD (Z18 e i - 1) Z0j)=p at*;have hm:Z0i 81 (mkRat (i - p.at_) (q.at_ - p.at_).toNat):=(by have g1:Lim 1 (i - p.at_).natAbs:=(by unfold Lim;rw[Nat.pow_one];have:W32=4294967296:=rfl;omega);have g2:Lim 1 (q.at_ - p.at_).toNat:=(by unfold Lim;rw[Nat.pow_one];have:W32=4294967296:=rfl;omega);exact(Z0i.mk g1 g2 (by omega)).mono (by omega));exact(Z0i.add a1 (Z0i.mul hd hm)).mono (by omega)
structure FunV (w:World)(N:Nat)(x y:Value)(f:Int→Rat)(lo hi:Int)(k:Nat):Prop where
 ent:∀args w,(callFunc N args).run Tryz.prog w= .ok (.enter N args) w
 run:∀(i:Int) (W:World),Gq w W→lo≤i→i≤hi→Calls Tryz.prog N #[.int .i64 i,x,y] W (Z1r (f i) W)
 lim:∀i,lo≤i→i≤hi→Z0i k (f i)
theorem FunV.gq {w w':World}{N:Nat}{x y:Value}{f:Int→Rat}{lo hi:Int}{k:Nat}(h:FunV w N x y f lo hi k)(hg:Gq w w'):FunV w' N x y f lo hi k:=⟨h.ent,fun i W hW=>h.run i W (hg.trans hW),h.lim⟩
theorem FunV.sub {w:World}{N:Nat}{x y:Value}{f:Int→Rat}{lo hi lo' hi':Int}{k:Nat}(h:FunV w N x y f lo hi k)(h1:lo≤lo')(h2:hi'≤hi):FunV w N x y f lo' hi' k:=
 ⟨h.ent,fun i W hW a b=>h.run i W hW (by omega) (by omega),fun i a b=>h.lim i (by omega) (by omega)⟩
theorem cof1_any (x:CliM)(k i:Int)(g1 g2:Nat)(w:World)(h1:Blk w g1 39 [.string x.m,.int .i64 x.ch,.int .i64 x.fr,.int .i64 x.tr,.int .i64 x.at_,.int .i64 x.ln,.slice x.e.a x.e.xs.length x.e.c])(h2:Blk w g2 3 [.int .i64 k])
  (hx:CliOk w x) (hv:Z3r x.ln x.e.xs=0) (hln:x.ln≤100000) (hi:0≤i+k∧i+k<100000):
  Calls Tryz.prog 73 #[.int .i64 i,.pointer (some ⟨g1,0,none⟩),.pointer (some ⟨g2,0,none⟩)] w (Z1r (Z38 x.e.xs (i+k)) w):=by
 obtain⟨s,hs⟩:∃s,i+k=s:=⟨_,rfl⟩;obtain⟨V,hV⟩:∃V,Z38 x.e.xs s=V:=⟨_,rfl⟩;obtain⟨wz,hwz⟩:∃wz,wz=w.alloc (.cells #[.bool false,.slice none 0 0,.slice none 0 0] 116):=⟨_,rfl⟩;have hg:Gq w wz:=by rw[hwz];exact(Gq.refl _).alloc _
 have HQ:Hid (QB wz w.heap.size):=by rw[hwz];exact QB.new w
 have HVA:Hid (Calls Tryz.prog 74 #[x.v,.int .i64 s] wz (Z1r V wz)):=by rw[←hV];exact Zc7 x s wz (hx.below hg) hv hln (by rw[←hs];exact hi)
 have hwr:IntKind.i64.wrap (i+k)=s:=by rw[←hs];exact IntWalk.i64_in _ (by omega)
 rw[hs,hV];have h1z:=Z0o h1 hg;have h2z:=Z0o h2 hg;have HG:=Za hg;have HWZ:=Za hwz;clear hs hV hwz hg h1 h2 hx hv hln hi;obtain⟨xm,xc,xf,xt,xa,xl,⟨EA,ed,es⟩⟩:=x;simp only[CliM.v,Slc.v]at HVA;simp only at h1z;obtain⟨en,hen⟩:∃en:Nat,es.length=en:=⟨_,rfl⟩;rw[hen]at HVA h1z;clear hen;have c0:wz.cell? ⟨g1,0,none⟩=some _:=h1z.cell 0;have c1:wz.cell? ⟨g1,1,none⟩=some _:=h1z.cell 1;have c2:wz.cell? ⟨g1,2,none⟩=some _:=h1z.cell 2;have c3:wz.cell? ⟨g1,3,none⟩=some _:=h1z.cell 3;have c4:wz.cell? ⟨g1,4,none⟩=some _:=h1z.cell 4;have c5:wz.cell? ⟨g1,5,none⟩=some _:=h1z.cell 5;have c6:wz.cell? ⟨g1,6,none⟩=some _:=h1z.cell 6;have d0:wz.cell? ⟨g2,0,none⟩=some _:=h2z.cell 0;clear h1z h2z;go_enter Tryz.func73,Tryz.ntmps73;go_upto_region 1 with(fail);rw[←HWZ.o];go_wp2_with fail;refine HVA.o.mono ?_;rintro e w2 ⟨v,rfl,hvr,hb⟩;obtain⟨sg,A1,L1,l1,A2,L2,l2,rfl⟩:=Z0m hvr;have hq:=HQ.o.gq hb;obtain⟨x0,x1,x2,q0,q1,q2,f0,f1,f2⟩:=hq.cells;have hst:=hq.store (x:= .bool sg) (y:= .slice A1 L1 l1) (z:= .slice A2 L2 l2)
 have HFIN:Hid (Z1r V w (.returned (.agg #[.bool sg,.slice A1 L1 l1,.slice A2 L2 l2])) (((w2.setCell ⟨w.heap.size,0,none⟩ (.bool sg)).setCell ⟨w.heap.size,1,none⟩ (.slice A1 L1 l1)).setCell ⟨w.heap.size,2,none⟩ (.slice A2 L2 l2))):=
  ⟨_,rfl,hq.rat (otw3 w2 w.heap.size (.bool sg) (.slice A1 L1 l1) (.slice A2 L2 l2)) hvr,Z7c (HG.o.trans hb) (Zh _) _ _ _⟩
 have k0:=hst.cell 0;have k1:=hst.cell 1;have k2:=hst.cell 2;simp only[Ze,Zf]at k0 k1 k2;clear hvr hb hq hst c0 c1 c2 c3 c4 c5 c6 d0 hwr;go_wp2_with fail;exact bodyPost_ret (v:= .agg #[.bool sg,.slice A1 L1 l1,.slice A2 L2 l2]) (by simp[results,Tryz.results73,go_sem,k0,k1,k2]) rfl HFIN.o
theorem Zey:(Tryz.prog.info? 3).map (fun i=>(i.zero,i.size,i.bytes))=some (some (.int .i64 0),1,8):=by kernel_rfl
def CrvR (x:CliM)(k:Int)(w:World)(e:Ending)(w':World):Prop:=
 Gq w w'∧∃(g1 g2:Nat) (A:Option Addr) (n c:Nat),e= .returned (.agg #[.func (.func 73) #[] #[.pointer (some ⟨g1,0,none⟩),.pointer (some ⟨g2,0,none⟩)],.slice A n c])∧n=x.e.xs.length∧Rd w' A (ic (x.e.xs.map fun p=>p.at_ - k))∧
  FunV w' 73 (.pointer (some ⟨g1,0,none⟩)) (.pointer (some ⟨g2,0,none⟩)) (fun i=>Z38 x.e.xs (i+k)) (-k) (x.ln - 1 - k) 300
theorem Zez (l:List Int)(z:Int):ic (l++ [z])=ic l++ [.int .i64 z]:=by simp[ic]
theorem crv_end {wz wr w9:World}{b0 k:Nat}{AO:Option Addr}{cO:Nat}{v9:Value}{L:List Int}{o o':Obj}{ss:List Value}(hg:Gq wz wr∧b0+3≤wr.heap.size)(ho:wr.ownsRow (b0+3) 3 1 (.slice AO k cO) k (ic (L.take k)))(ht:wz.heap.size=b0+3∧ic (L.take (k+1))=ic (L.take k)++ss)
  (hown:w9.ownsRow (b0+3) 3 1 v9 (k+1) (ic (L.take k)++ss)) (hgr:((wr.alloc o).alloc o').grownBy w9 (Value.slice AO k cO).ownBlock):(Gq wz w9∧b0+3≤w9.heap.size)∧w9.ownsRow (b0+3) 3 1 v9 (k+1) (ic (L.take (k+1))):=
 ⟨⟨Below.grown ((hg.1.alloc o).alloc o') hgr (by have:=hg.2;simp;omega) (fun j hj=>by have:=(ho.lt j hj).1;omega),Nat.le_trans (by have:=hg.2;simp;omega) hgr.size⟩,by rw[ht.2];exact hown⟩
theorem builtCv (a b:Addr)(A:Option Addr)(n c:Nat):Tryz.prog.built 77 [(0,.func (.func 73) #[] #[.pointer (some a),.pointer (some b)]),(1,.slice A n c)]=some #[.func (.func 73) #[] #[.pointer (some a),.pointer (some b)],.slice A n c]:=by kernel_rfl
theorem Z9q (x:CliM)(k:Int)(w:World)(hx:CliOk w x)(hv:Z3r x.ln x.e.xs=0)(hln:x.ln≤100000)(hk:0≤k∧k≤100000):
  Calls Tryz.prog 47 #[x.v,.int .i64 k] w (CrvR x k w):=by
 obtain⟨b0,hb0⟩:∃b,w.heap.size=b:=⟨_,rfl⟩;obtain⟨wa,hwa⟩:∃wa,wa=w.alloc (.cells #[.string x.m,.int .i64 x.ch,.int .i64 x.fr,.int .i64 x.tr,.int .i64 x.at_,.int .i64 x.ln,.slice x.e.a x.e.xs.length x.e.c] 39):=⟨_,rfl⟩;obtain⟨wb,hwb⟩:∃wb,wb=wa.alloc (.cells #[.int .i64 k] 3):=⟨_,rfl⟩;obtain⟨wz,hwz⟩:∃wz,wz=wb.alloc (.cells #[.nilFunc,.slice none 0 0] 77):=⟨_,rfl⟩;have hga:Gq w wa:=by rw[hwa];exact(Gq.refl _).alloc _
 have hgb:Gq wa wb:=by rw[hwb];exact(Gq.refl _).alloc _
 have hgc:Gq wb wz:=by rw[hwz];exact(Gq.refl _).alloc _
 have hza:wa.heap.size=b0+1:=by rw[hwa];simp;omega
 have hzb:wb.heap.size=b0+2:=by rw[hwb];simp;omega
 have HZZ:Hid (wz.heap.size=b0+3∧wb.heap.size=b0+2):=⟨by rw[hwz];simp;omega,hzb⟩;have HGB:Hid (Gq w wb):=hga.trans hgb;have HGC:Hid (Gq wb wz):=hgc;have HKC:Hid (Blk wb b0 39 [.string x.m,.int .i64 x.ch,.int .i64 x.fr,.int .i64 x.tr,.int .i64 x.at_,.int .i64 x.ln,.slice x.e.a x.e.xs.length x.e.c]):=by refine Z0o (?_:Blk wa b0 _ _) hgb;rw[hwa,←hb0];exact Blk.new w _ _
 have HKF:Hid (Blk wb (b0+1) 3 [.int .i64 k]):=by rw[hwb,←hza];exact Blk.new wa _ _
 have HKR:Hid (Blk wz (b0+1+1) 77 [.nilFunc,.slice none 0 0]):=by rw[hwz,show b0+1+1=wb.heap.size by omega];exact Blk.new wb _ _
 have HFUN:Hid (∀W,Gq wb W→FunV W 73 (.pointer (some ⟨b0,0,none⟩)) (.pointer (some ⟨b0+1,0,none⟩)) (fun i=>Z38 x.e.xs (i+k)) (-k) (x.ln - 1 - k) 300):=fun W hW=>
  ⟨enters_of Tryz.func73 (by kernel_rfl) rfl,fun i W' hW' h1 h2=>cof1_any x k i b0 (b0+1) W' (Z0o HKC.o (hW.trans hW')) (Z0o HKF.o (hW.trans hW')) (hx.below (HGB.o.trans (hW.trans hW'))) hv hln (by omega),fun i h1 h2=>Z8o hv hln (by omega)⟩
 obtain⟨L,hL⟩:∃L,x.e.xs.map (fun p=>p.at_ - k)=L:=⟨_,rfl⟩;have HPR:Hid (∀(j:Nat) (h:j<x.e.xs.length),(0≤x.e.xs[j].at_∧x.e.xs[j].at_<100000)∧L[j]? =some (x.e.xs[j].at_ - k)):=fun j h=>by have h2:=(Z1k hv).2.2 _ (Zn h);refine⟨⟨h2.a.1,by have:=h2.a.2;omega⟩, ?_⟩;rw[←hL,List.getElem?_map,Zi h];rfl
 have HLE:Hid (x.e.xs.length≤50∧L.length=x.e.xs.length):=⟨(Z1k hv).2.1,by rw[←hL,List.length_map]⟩;have HER:Hid (Rd w x.e.a (x.e.xs.flatMap Pnt.cs)):=hx.er
 have HEND:Hid (∀(A:Option Addr) (n c:Nat) (W:World),Gq wb W→n=x.e.xs.length→Rd W A (ic L)→CrvR x k w (.returned (.agg #[.func (.func 73) #[] #[.pointer (some ⟨b0,0,none⟩),.pointer (some ⟨b0+1,0,none⟩)],.slice A n c])) W):=fun A n c W hW hn hr=>
  ⟨HGB.o.trans hW,b0,b0+1,A,n,c,rfl,hn,by rw[hL];exact hr,HFUN.o W hW⟩
 have HKK:Hid (0≤k∧k≤100000):=hk;have HB0:=Za hb0;rw[hwa]at hwb;rw[hwb]at hwz;have HWZ:=Za hwz;clear hwa hwb hwz hga hgb hgc hza hzb hx hv hln hL HFUN hk HKC;obtain⟨q,hq⟩:∃q,CrvR x k w=q:=⟨_,rfl⟩;rw[hq]at HEND⊢;clear hq;obtain⟨xm,xc,xf,xt,xa,xl,⟨EA,ed,es⟩⟩:=x;simp only at HPR HLE HER HWZ HEND;simp only[CliM.v,Slc.v];obtain⟨en,hen⟩:∃en:Nat,es.length=en:=⟨_,rfl⟩;have HEN:=Za hen;rw[hen]at HLE HWZ HEND⊢;clear hen;obtain⟨ii,hii,hzi0,hzi1,hzi2⟩:=info_parts Zey;have HII:=Za (And.intro hii (And.intro hzi0 (And.intro hzi1 hzi2)));clear hii hzi0 hzi1 hzi2;go_enter Tryz.func47,Tryz.ntmps47;go_upto_region 1 with(fail);rw[←HWZ.o];try simp only[hb0]
 clear hb0;have e6:wz.cell? ⟨b0,6,none⟩=some (.slice EA en ed):=by rw[HWZ.o,HB0.o.symm];exact(((Blk.new w 39 [.string xm,.int .i64 xc,.int .i64 xf,.int .i64 xt,.int .i64 xa,.int .i64 xl,.slice EA en ed]).same (Same.alloc (S:=fun _=>True) _ _) trivial).same (Same.alloc (S:=fun _=>True) _ _) trivial).cell 6
 go_wp2_with fail;clear e6
 go_loopw [5,11] (fun ov kv wq=>∃(k:Nat) (AO:Option Addr) (cO:Nat),k≤en∧kv= .int .i64 (k:Int)∧ov= .slice AO k cO∧Hid (wq.ownsRow (b0+3) 3 1 (.slice AO k cO) k (ic (L.take k)))∧Hid (Gq wz wq∧b0+3≤wq.heap.size)) (fun _ kv _=>en - (intOf kv).toNat)
 case atStart=>exact⟨0,none,0,Nat.zero_le _,rfl,rfl,World.ownsRow_nil _ _ _ _,Gq.refl _,by have:=HZZ.o.1;show _≤_;omega⟩
 case round=>
  obtain⟨j,AO,cO,hk,rfl,rfl,HOW,HG⟩:=hrel;by_cases hlt:j<en
  case neg=>
   have hd0:decide (j<en)=false:=(by simpa using hlt);have hke:j=en:=(by omega);subst hke;have hkr:=Z0o HKR.o HG.o.1;have r0:wr.cell? ⟨b0+1+1,0,none⟩=some .nilFunc:=hkr.cell 0;have r1:wr.cell? ⟨b0+1+1,1,none⟩=some (.slice none 0 0):=hkr.cell 1;have s0:=hkr.frozen 0;have s1:=hkr.frozen 1;have hrun:=run_build (P:=Tryz.prog) wr 77 _ _ (builtCv ⟨b0,0,none⟩ ⟨b0+1,0,none⟩ AO j cO);have hk2:=Z1o [.func (.func 73) #[] #[.pointer (some ⟨b0,0,none⟩),.pointer (some ⟨b0+1,0,none⟩)],.slice AO j cO] hkr rfl;have hw2:Gq wb (Z4s wr (b0+1+1) 0 [.func (.func 73) #[] #[.pointer (some ⟨b0,0,none⟩),.pointer (some ⟨b0+1,0,none⟩)],.slice AO j cO]):=Z0t (by rw[HZZ.o.2];omega) _ _ _ (HGC.o.trans HG.o.1);have ho2:=Zb8 (g:=b0+1+1) (by omega) [.func (.func 73) #[] #[.pointer (some ⟨b0,0,none⟩),.pointer (some ⟨b0+1,0,none⟩)],.slice AO j cO] wr 0 HOW.o
   have HFIN:=Za (HEND.o AO j cO _ hw2 rfl (by
    rw[Zl (by rw[HLE.o.2];omega)]at ho2
    exact Rd.of_own ho2))
   obtain⟨wf,hwf⟩:∃wf,Z4s wr (b0+1+1) 0 [.func (.func 73) #[] #[.pointer (some ⟨b0,0,none⟩),.pointer (some ⟨b0+1,0,none⟩)],.slice AO j cO]=wf:=⟨_,rfl⟩;rw[hwf]at hk2 HFIN;have hwf2:(wr.setCell ⟨b0+1+1,0,none⟩ (.func (.func 73) #[] #[.pointer (some ⟨b0,0,none⟩),.pointer (some ⟨b0+1,0,none⟩)])).setCell ⟨b0+1+1,1,none⟩ (.slice AO j cO)=wf:=hwf;have HWF:=Za hwf2;have q0:wf.cell? ⟨b0+1+1,0,none⟩=some _:=hk2.cell 0;have q1:wf.cell? ⟨b0+1+1,1,none⟩=some _:=hk2.cell 1;clear hkr hwf hwf2 hk2 hw2 ho2 HOW hlt;go_wp2_with fail;rw[HWF.o];exact bodyPost_ret (v:= .agg #[.func (.func 73) #[] #[.pointer (some ⟨b0,0,none⟩),.pointer (some ⟨b0+1,0,none⟩)],.slice AO j cO]) (by simp[results,Tryz.results47,go_sem,q0,q1]) rfl HFIN.o
  have hd0:decide (j<en)=true:=by simpa using hlt
  have hje:j<es.length:=by rw[HEN.o];exact hlt
  have HGW:Hid (Gq w wr):=HGB.o.trans (HGC.o.trans HG.o.1);obtain⟨b,off,hA,hbb,hcs⟩:=Z4a (HER.o.below HGW.o) (show 0<es.length by omega);obtain rfl:EA=some ⟨b,off,none⟩:=hA;obtain⟨d0,d1,d2⟩:=hcs j hje;have HPJ:=Za (HPR.o j hje);obtain⟨Z,hZ⟩:∃Z,es[j]=Z:=⟨_,rfl⟩;rw[hZ]at d0 d1 d2 HPJ;clear hcs hZ;obtain⟨pa,pn,pd⟩:=Z;simp only at d0 d1 d2 HPJ;obtain⟨s,hs⟩:∃s,pa - k=s:=⟨_,rfl⟩;have hwr:IntKind.i64.wrap (pa - k)=s:=by rw[←hs];have h1:=HPJ.o.1;have h2:=HKK.o;exact IntWalk.i64_in _ (by omega)
  have HTK:Hid (wz.heap.size=b0+3∧ic (L.take (j+1))=ic (L.take j)++ [.int .i64 s]):=by refine⟨HZZ.o.1, ?_⟩;rw[List.take_add_one,HPJ.o.2,hs];exact Zez _ _
  have hen50:en≤50:=HLE.o.1;have i0:(0:Int)≤(j:Int):=by omega
  have i1:(j:Int)<(en:Int):=by omega
  obtain⟨wc,hwc⟩:∃wc,wc=wr.alloc (.cells #[.int .i64 pa,.string pn,.string pd] 61):=⟨_,rfl⟩;have HWC:=Za hwc;have hkf:=Z0o HKF.o (HGC.o.trans (HG.o.1.trans (by rw[hwc];exact(Gq.refl _).alloc _:Gq wr wc)));have f0:wc.cell? ⟨b0+1,0,none⟩=some (.int .i64 k):=hkf.cell 0;have p0:wc.cell? ⟨wr.heap.size,0,none⟩=some (.int .i64 pa):=by rw[hwc];exact(Blk.new wr 61 [.int .i64 pa,.string pn,.string pd]).cell 0
  have HOC:Hid (wc.ownsRow (b0+3) 3 1 (.slice AO j cO) j (ic (L.take j))):=by rw[hwc];exact HOW.o.alloc _
  have HZC:Hid (b0+3≤wc.heap.size):=by rw[hwc];have:=HG.o.2;show _≤_;simp;omega
  clear hwc hkf hs HPJ hje;go_upto_region 5 with(fail);rw[←HWC.o];clear d0 d1 d2;go_wp2_with (at_builtin; (refine wpList_append_own _ rfl _ _ 65 rfl (b0+3) 3 ii _ 1 8 Tryz.underlying65 HII.o.1 HII.o.2.1 HII.o.2.2.1 HII.o.2.2.2 rfl (by decide) (.slice AO j cO) j (ic (L.take j)) rfl (HOC.o.alloc _) ⟨wc.heap.size,0,none⟩ 1 1 [.int .i64 s] (by rfl) (by rfl) (World.news_of_block (cs:= #[.int .i64 s]) (t:=3) (fr:=(0,0)) (by exact heap_alloc_new wc _)) (by simp[Value.oneCell']) (by unfold maxLen;have:=HLE.o.1;omega) (by have:=HLE.o.1;omega) (by have:=HZC.o;simp;omega) ?_);intro v9 w9 hown9 hgrow9 _;rw[HWC.o]at hgrow9;have hend:=crv_end HG.o HOW.o HTK.o hown9 hgrow9;obtain⟨A9,c9,rfl⟩:=Z08 hown9;have HE9:=Za hend;clear hend hown9 hgrow9);go_roundw
  case rel=>exact⟨j+1,A9,c9,by omega,by go_num,rfl,HE9.o.2,HE9.o.1⟩
  case measure=>simp[intOf];omega
end Go.Proofs.YtcemlhbfemenpaaGreatDoor
namespace Go.Proofs.YtcemlhbfemenpaaGreatDoor
open Go.RowKit Go.Dw
open Go.Dwo (fcL fcN fcK fcZ fcG fcE fcD fcV fcC fcP Z00)
attribute [local go_sem ↓] Go.wp_at_zero Go.wp_at_succ
attribute [local go_sem] Go.Dwo.Oper.tame Go.Dwo.actOf List.getD_cons_zero List.getD_cons_succ
def bntF (w0:World)(b g fn:Nat)(px py:Value)(A:Option Addr)(n c:Nat)(fq:Int→Rat)(i:Int)(s:Bool)(A1:Option Addr)(L1 l1:Nat)(A2:Option Addr)(L2 l2:Nat)(ri:Bool):List Go.Dwo.Fact:= [
 ⟨[],[],fun _ W=>Gq w0 W⟩,
 ⟨[],[],fun _ W=>Blk W b 77 [.func (.func fn) #[] #[px,py],.slice A n c]⟩,
 ⟨[],[],fun _ W=>Blk W g 116 [.bool s,.slice A1 L1 l1,.slice A2 L2 l2]∧Z10 W (.agg #[.bool s,.slice A1 L1 l1,.slice A2 L2 l2]) (fq i)⟩,
 ⟨[0],[],fun vs W=>∃zs zA zL zc zB zM zd,vs 0= .agg #[.bool zs,.slice zA zL zc,.slice zB zM zd]∧Z10 W (.agg #[.bool zs,.slice zA zL zc,.slice zB zM zd]) (fq i)⟩,
 ⟨[1],[],fun vs _=>vs 1= .pointer (some ⟨b,0,none⟩)⟩,
 ⟨[2],[],fun vs _=>vs 2= .func (.func fn) #[] #[px,py]⟩,
 ⟨[3],[],fun vs _=>vs 3= .int .i64 i⟩,
 ⟨[4],[],fun vs _=>vs 4= .int .i64 (i - 1)⟩,
 ⟨[5],[],fun vs W=>∃zs zA zL zc zB zM zd,vs 5= .agg #[.bool zs,.slice zA zL zc,.slice zB zM zd]∧Z10 W (.agg #[.bool zs,.slice zA zL zc,.slice zB zM zd]) (fq (i - 1))⟩,
 ⟨[6],[],fun vs W=>∃zs zA zL zc zB zM zd,vs 6= .agg #[.bool zs,.slice zA zL zc,.slice zB zM zd]∧Z10 W (.agg #[.bool zs,.slice zA zL zc,.slice zB zM zd]) (fq i - fq (i - 1))⟩,
 ⟨[7],[],fun vs _=>vs 7= .pointer (some ⟨b,0,none⟩)⟩,
 ⟨[8],[],fun vs _=>vs 8= .func (.func fn) #[] #[px,py]⟩,
 ⟨[9],[],fun vs _=>vs 9= .int .i64 i⟩,
 ⟨[10],[],fun vs _=>vs 10= .int .i64 (i+1)⟩,
 ⟨[11],[],fun vs W=>∃zs zA zL zc zB zM zd,vs 11= .agg #[.bool zs,.slice zA zL zc,.slice zB zM zd]∧Z10 W (.agg #[.bool zs,.slice zA zL zc,.slice zB zM zd]) (fq (i+1))⟩,
 ⟨[12],[],fun vs W=>∃zs zA zL zc zB zM zd,vs 12= .agg #[.bool zs,.slice zA zL zc,.slice zB zM zd]∧Z10 W (.agg #[.bool zs,.slice zA zL zc,.slice zB zM zd]) (fq i)⟩,
 ⟨[13],[],fun vs W=>∃zs zA zL zc zB zM zd,vs 13= .agg #[.bool zs,.slice zA zL zc,.slice zB zM zd]∧Z10 W (.agg #[.bool zs,.slice zA zL zc,.slice zB zM zd]) (fq (i+1) - fq i)⟩,
 ⟨[14],[],fun vs _=>vs 14= .int .i64 (Z4n (fq i - fq (i - 1)) (fq (i+1) - fq i))⟩,
 ⟨[15],[],fun vs _=>vs 15= .bool ri⟩,
 ⟨[16],[],fun vs _=>vs 16= .bool ri⟩]
theorem bntK (w0:World)(b g fn:Nat)(px py:Value)(A:Option Addr)(n c:Nat)(fq:Int→Rat)(i:Int)(s:Bool)(A1:Option Addr)(L1 l1:Nat)(A2:Option Addr)(L2 l2:Nat)(ri:Bool):∀f∈bntF w0 b g fn px py A n c fq i s A1 L1 l1 A2 L2 l2 ri,∀vs w w',Gq w w'→f.says vs w→f.says vs w':=
 fcL (fun _ _ _ hg h=>h.trans hg)<|fcL (fun _ _ _ hg h=>Z0o h hg)<|fcL (fun _ _ _ hg h=>⟨Z0o h.1 hg,h.2.gq hg⟩)<|fcL (fun _ _ _ hg h=>(by obtain⟨zs,zA,zL,zc,zB,zM,zd,h1,h2⟩:=h;exact⟨zs,zA,zL,zc,zB,zM,zd,h1,h2.gq hg⟩))<|fcL (fun _ _ _ _ h=>h)<|fcL (fun _ _ _ _ h=>h)<|fcL (fun _ _ _ _ h=>h)<|fcL (fun _ _ _ _ h=>h)<|fcL (fun _ _ _ hg h=>(by obtain⟨zs,zA,zL,zc,zB,zM,zd,h1,h2⟩:=h;exact⟨zs,zA,zL,zc,zB,zM,zd,h1,h2.gq hg⟩))<|fcL (fun _ _ _ hg h=>(by obtain⟨zs,zA,zL,zc,zB,zM,zd,h1,h2⟩:=h;exact⟨zs,zA,zL,zc,zB,zM,zd,h1,h2.gq hg⟩))<|fcL (fun _ _ _ _ h=>h)<|fcL (fun _ _ _ _ h=>h)<|fcL (fun _ _ _ _ h=>h)<|fcL (fun _ _ _ _ h=>h)<|fcL (fun _ _ _ hg h=>(by obtain⟨zs,zA,zL,zc,zB,zM,zd,h1,h2⟩:=h;exact⟨zs,zA,zL,zc,zB,zM,zd,h1,h2.gq hg⟩))<|fcL (fun _ _ _ hg h=>(by obtain⟨zs,zA,zL,zc,zB,zM,zd,h1,h2⟩:=h;exact⟨zs,zA,zL,zc,zB,zM,zd,h1,h2.gq hg⟩))<|fcL (fun _ _ _ hg h=>(by obtain⟨zs,zA,zL,zc,zB,zM,zd,h1,h2⟩:=h;exact⟨zs,zA,zL,zc,zB,zM,zd,h1,h2.gq hg⟩))<|fcL (fun _ _ _ _ h=>h)<|fcL (fun _ _ _ _ h=>h)<|fcL (fun _ _ _ _ h=>h)<|fcN _
theorem bent_any (fn:Nat)(px py:Value)(A:Option Addr)(n c:Nat)(fq:Int→Rat)(lo hi:Int)(k:Nat)(i:Int)(w:World)(hf:FunV w fn px py fq lo hi k)(h1:lo≤i - 1)(h2:i+1≤hi)(hi64: -1000000≤i∧i≤1000000)(hk:k≤1000000):
  Calls Tryz.prog 81 #[.agg #[.func (.func fn) #[] #[px,py],.slice A n c],.int .i64 i] w fun e w'=>e= .returned (.bool (Z3p fq i))∧Gq w w':=by
 obtain⟨ri,hri⟩:∃r,(Z4n (fq i - fq (i - 1)) (fq (i+1) - fq i) !=0)=r:=⟨_,rfl⟩;have HRI:=Za hri
 have HRB:Hid (ri=Z3p fq i):=by
  show _=_;rw[←hri];unfold Z3p;have h:=Z1t (fq i - fq (i - 1)) (fq (i+1) - fq i);by_cases e:fq i - fq (i - 1)=fq (i+1) - fq i
  · rw[h.2 e,decide_eq_false (fun q=>q e)];rfl
  · rw[decide_eq_true e];simpa using fun q=>e (h.1 q)
 have HI:Hid (lo≤i - 1∧i+1≤hi∧ -1000000≤i∧i≤1000000):=⟨h1,h2,hi64.1,hi64.2⟩;have HK:=Za hk;have HWR:Hid (IntKind.i64.wrap (i - 1)=i - 1∧IntKind.i64.wrap (i+1)=i+1):=⟨IntWalk.i64_in _ (by omega),IntWalk.i64_in _ (by omega)⟩;have HL:Hid (Z0i (k+k+1) (fq i - fq (i - 1))∧Z0i (k+k+1) (fq (i+1) - fq i)):=⟨(hf.lim i (by omega) (by omega)).sub (hf.lim (i - 1) (by omega) (by omega)),(hf.lim (i+1) (by omega) (by omega)).sub (hf.lim i (by omega) (by omega))⟩;obtain⟨b,hb⟩:∃b,w.heap.size=b:=⟨_,rfl⟩;obtain⟨w0,hwa⟩:∃w0,w0=w.alloc (.cells #[.func (.func fn) #[] #[px,py],.slice A n c] 77):=⟨_,rfl⟩;have HGA:Hid (Gq w w0):=by rw[hwa];exact(Gq.refl _).alloc _
 have HKB:Hid (Blk w0 b 77 [.func (.func fn) #[] #[px,py],.slice A n c]):=by rw[hwa,←hb];exact Blk.new w _ _
 have HF:Hid (FunV w0 fn px py fq lo hi k):=hf.gq HGA.o;have HWA:=Za hwa;have y0:w0.cell? ⟨b,0,none⟩=some (.func (.func fn) #[] #[px,py]):=HKB.o.cell 0;have hent:=HF.o.ent;have HC1:=Za (HF.o.run i w0 (Gq.refl _) (by omega) (by omega));clear hri hf h1 h2 hi64 hk hwa;rw[←HRB.o];clear HRB;go_enter Tryz.func81,Tryz.ntmps81;go_upto_region 1 with(fail);rw[←HWA.o];try simp only[hb]
 clear hb;go_wp2_with fail;refine HC1.o.mono ?_;rintro e w2 ⟨v,rfl,hv,hg2⟩;obtain⟨s,A1,L1,l1,A2,L2,l2,rfl⟩:=Z0m hv;obtain⟨g,hgz⟩:∃g,w2.heap.size=g:=⟨_,rfl⟩;obtain⟨w3,hw3⟩:∃w3,w3=w2.alloc (.cells #[.bool s,.slice A1 L1 l1,.slice A2 L2 l2] 116):=⟨_,rfl⟩;have hg3:Gq w2 w3:=by rw[hw3];exact(Gq.refl _).alloc _
 have HBASE:Hid (Gq w0 w3.drew∧Blk w3.drew b 77 [.func (.func fn) #[] #[px,py],.slice A n c]∧Blk w3.drew g 116 [.bool s,.slice A1 L1 l1,.slice A2 L2 l2]∧Z10 w3.drew (.agg #[.bool s,.slice A1 L1 l1,.slice A2 L2 l2]) (fq i)):=by have hd:Gq w3 w3.drew:=(Gq.refl _).drew;exact⟨Gq.trans hg2 (hg3.trans hd),Z0o HKB.o (Gq.trans hg2 (hg3.trans hd)),Z0o (by rw[hw3,←hgz];exact Blk.new w2 _ _) hd,hv.gq (hg3.trans hd)⟩
 have HW3:=Za hw3;have HGZ:=Za hgz;clear hw3 hg3 hv hg2 HC1 y0 hent HKB;go_upto_region 2 with(fail);rw[←HW3.o];try simp only[hgz]
 clear hgz;refine Z00 _ (by kernel_rfl) [[],[],[1],[],[3],[1,2,3,4],[0,1,2,3,4,5],[],[7],[],[9],[7,8,9,10],[],[7,8,9,10,11,12],[0,1,2,3,4,5,6,7,8,9,10,11,12,13],[0,1,2,3,4,5,6,7,8,9,10,11,12,13,14],[0,1,2,3,4,5,6,7,8,9,10,11,12,13,14,15]] (by kernel_rfl) (by kernel_rfl) [some 10,some 11,some 12,some 13,some 14,some 15,some 16,some 17,some 18,some 19,some 20,some 21,some 22,some 23,some 24,some 25,some 4] (by kernel_rfl) (fun vs=>by simp only[Go.Dwo.putA,Go.Dwo.putL,if_true,Act.put,Zb,Zc,Zd];rfl) (bntF w0 b g fn px py A n c fq i s A1 L1 l1 A2 L2 l2 ri) (by kernel_rfl) ?_ ⟨?_, ?_, ?_, ?_, ?_, ?_, ?_, ?_, ?_, ?_, ?_, ?_, ?_, ?_, ?_, ?_, ?_,trivial⟩ ?_
 · exact fcZ [0,1,2] rfl<|fcL (HBASE.o.1)<|fcL (HBASE.o.2.1)<|fcL (HBASE.o.2.2)<|fcN _
 · intro Ls vs w Kk H hu hD hK;obtain⟨kx,vx⟩:Blk w g 116 [.bool s,.slice A1 L1 l1,.slice A2 L2 l2]∧Z10 w (.agg #[.bool s,.slice A1 L1 l1,.slice A2 L2 l2]) (fq i):=fcG H hu hD 2 rfl rfl rfl;have x0:w.cell? ⟨g,0,none⟩=_:=kx.cell 0;have x1:w.cell? ⟨g,1,none⟩=_:=kx.cell 1;have x2:w.cell? ⟨g,2,none⟩=_:=kx.cell 2;simp only[Ze,Zf]at x0 x1 x2;have HVX:=Za vx;clear vx;go_simp;exact fcV hK (fcP 3 rfl rfl fun _=>⟨s,A1,L1,l1,A2,L2,l2,rfl,HVX.o⟩)
 · intro Ls vs w Kk H hu hD hK;go_simp;exact fcV hK (fcP 4 rfl rfl fun _=>rfl)
 · intro Ls vs w Kk H hu hD hK;have kb:Blk w b 77 [.func (.func fn) #[] #[px,py],.slice A n c]:=fcG H hu hD 1 rfl rfl rfl;have f1:vs 1= .pointer (some ⟨b,0,none⟩):=fcG H hu hD 4 rfl rfl rfl;have y0:w.cell? ⟨b,0,none⟩=_:=kb.cell 0;simp only[Ze]at y0;go_simp;exact fcV hK (fcP 5 rfl rfl fun _=>rfl)
 · intro Ls vs w Kk H hu hD hK;go_simp;exact fcV hK (fcP 6 rfl rfl fun _=>rfl)
 · intro Ls vs w Kk H hu hD hK;have f3:vs 3= .int .i64 i:=fcG H hu hD 6 rfl rfl rfl;have hwa:=HWR.o.1;have hwb:=HWR.o.2;go_simp;exact fcV hK (fcP 7 rfl rfl fun _=>rfl)
 · intro Ls vs w Kk H hu hD hK;have h0:Gq w0 w:=fcG H hu hD 0 rfl rfl rfl;have f2:vs 2= .func (.func fn) #[] #[px,py]:=fcG H hu hD 5 rfl rfl rfl;have f4:vs 4= .int .i64 (i - 1):=fcG H hu hD 7 rfl rfl rfl;have hent:=HF.o.ent;go_simp;refine(HF.o.run (i - 1) w h0 HI.o.1 (by have:=HI.o;omega)).mono ?_;rintro e w' ⟨v,rfl,hv,hb⟩;obtain⟨zs,zA,zL,zc,zB,zM,zd,rfl⟩:=Z0m hv;exact⟨_,rfl,fcC hK (fun f hf _ h=>bntK w0 b g fn px py A n c fq i s A1 L1 l1 A2 L2 l2 ri f hf _ _ _ hb h) (fcP 8 rfl rfl fun _=>⟨zs,zA,zL,zc,zB,zM,zd,rfl,hv⟩)⟩
 · intro Ls vs w Kk H hu hD hK;obtain⟨zs0,zA0,zL0,zc0,zB0,zM0,zd0,e0,v0⟩:∃zs zA zL zc zB zM zd,vs 0= .agg #[.bool zs,.slice zA zL zc,.slice zB zM zd]∧Z10 w (.agg #[.bool zs,.slice zA zL zc,.slice zB zM zd]) (fq i):=fcG H hu hD 3 rfl rfl rfl;obtain⟨zs5,zA5,zL5,zc5,zB5,zM5,zd5,e5,v5⟩:∃zs zA zL zc zB zM zd,vs 5= .agg #[.bool zs,.slice zA zL zc,.slice zB zM zd]∧Z10 w (.agg #[.bool zs,.slice zA zL zc,.slice zB zM zd]) (fq (i - 1)):=fcG H hu hD 8 rfl rfl rfl;go_simp;refine(Z7b _ _ _ _ w v0 v5 k (HF.o.lim i (by have:=HI.o;omega) (by have:=HI.o;omega)) (HF.o.lim (i - 1) (by have:=HI.o;omega) (by have:=HI.o;omega)) (by have:=HK.o;omega)).mono ?_;rintro e w' ⟨v,rfl,hv,hb⟩;obtain⟨zs,zA,zL,zc,zB,zM,zd,rfl⟩:=Z0m hv;exact⟨_,rfl,fcC hK (fun f hf _ h=>bntK w0 b g fn px py A n c fq i s A1 L1 l1 A2 L2 l2 ri f hf _ _ _ hb h) (fcP 9 rfl rfl fun _=>⟨zs,zA,zL,zc,zB,zM,zd,rfl,hv⟩)⟩
 · intro Ls vs w Kk H hu hD hK;go_simp;exact fcV hK (fcP 10 rfl rfl fun _=>rfl)
 · intro Ls vs w Kk H hu hD hK;have kb:Blk w b 77 [.func (.func fn) #[] #[px,py],.slice A n c]:=fcG H hu hD 1 rfl rfl rfl;have f7:vs 7= .pointer (some ⟨b,0,none⟩):=fcG H hu hD 10 rfl rfl rfl;have y0:w.cell? ⟨b,0,none⟩=_:=kb.cell 0;simp only[Ze]at y0;go_simp;exact fcV hK (fcP 11 rfl rfl fun _=>rfl)
 · intro Ls vs w Kk H hu hD hK;go_simp;exact fcV hK (fcP 12 rfl rfl fun _=>rfl)
 · intro Ls vs w Kk H hu hD hK;have f9:vs 9= .int .i64 i:=fcG H hu hD 12 rfl rfl rfl;have hwa:=HWR.o.1;have hwb:=HWR.o.2;go_simp;exact fcV hK (fcP 13 rfl rfl fun _=>rfl)
 · intro Ls vs w Kk H hu hD hK;have h0:Gq w0 w:=fcG H hu hD 0 rfl rfl rfl;have f8:vs 8= .func (.func fn) #[] #[px,py]:=fcG H hu hD 11 rfl rfl rfl;have f10:vs 10= .int .i64 (i+1):=fcG H hu hD 13 rfl rfl rfl;have hent:=HF.o.ent;go_simp;refine(HF.o.run (i+1) w h0 (by have:=HI.o;omega) HI.o.2.1).mono ?_;rintro e w' ⟨v,rfl,hv,hb⟩;obtain⟨zs,zA,zL,zc,zB,zM,zd,rfl⟩:=Z0m hv;exact⟨_,rfl,fcC hK (fun f hf _ h=>bntK w0 b g fn px py A n c fq i s A1 L1 l1 A2 L2 l2 ri f hf _ _ _ hb h) (fcP 14 rfl rfl fun _=>⟨zs,zA,zL,zc,zB,zM,zd,rfl,hv⟩)⟩
 · intro Ls vs w Kk H hu hD hK;obtain⟨kx,vx⟩:Blk w g 116 [.bool s,.slice A1 L1 l1,.slice A2 L2 l2]∧Z10 w (.agg #[.bool s,.slice A1 L1 l1,.slice A2 L2 l2]) (fq i):=fcG H hu hD 2 rfl rfl rfl;have x0:w.cell? ⟨g,0,none⟩=_:=kx.cell 0;have x1:w.cell? ⟨g,1,none⟩=_:=kx.cell 1;have x2:w.cell? ⟨g,2,none⟩=_:=kx.cell 2;simp only[Ze,Zf]at x0 x1 x2;have HVX:=Za vx;clear vx;go_simp;exact fcV hK (fcP 15 rfl rfl fun _=>⟨s,A1,L1,l1,A2,L2,l2,rfl,HVX.o⟩)
 · intro Ls vs w Kk H hu hD hK;obtain⟨zs11,zA11,zL11,zc11,zB11,zM11,zd11,e11,v11⟩:∃zs zA zL zc zB zM zd,vs 11= .agg #[.bool zs,.slice zA zL zc,.slice zB zM zd]∧Z10 w (.agg #[.bool zs,.slice zA zL zc,.slice zB zM zd]) (fq (i+1)):=fcG H hu hD 14 rfl rfl rfl;obtain⟨zs12,zA12,zL12,zc12,zB12,zM12,zd12,e12,v12⟩:∃zs zA zL zc zB zM zd,vs 12= .agg #[.bool zs,.slice zA zL zc,.slice zB zM zd]∧Z10 w (.agg #[.bool zs,.slice zA zL zc,.slice zB zM zd]) (fq i):=fcG H hu hD 15 rfl rfl rfl;go_simp;refine(Z7b _ _ _ _ w v11 v12 k (HF.o.lim (i+1) (by have:=HI.o;omega) (by have:=HI.o;omega)) (HF.o.lim i (by have:=HI.o;omega) (by have:=HI.o;omega)) (by have:=HK.o;omega)).mono ?_;rintro e w' ⟨v,rfl,hv,hb⟩;obtain⟨zs,zA,zL,zc,zB,zM,zd,rfl⟩:=Z0m hv;exact⟨_,rfl,fcC hK (fun f hf _ h=>bntK w0 b g fn px py A n c fq i s A1 L1 l1 A2 L2 l2 ri f hf _ _ _ hb h) (fcP 16 rfl rfl fun _=>⟨zs,zA,zL,zc,zB,zM,zd,rfl,hv⟩)⟩
 · intro Ls vs w Kk H hu hD hK;obtain⟨zs6,zA6,zL6,zc6,zB6,zM6,zd6,e6,v6⟩:∃zs zA zL zc zB zM zd,vs 6= .agg #[.bool zs,.slice zA zL zc,.slice zB zM zd]∧Z10 w (.agg #[.bool zs,.slice zA zL zc,.slice zB zM zd]) (fq i - fq (i - 1)):=fcG H hu hD 9 rfl rfl rfl;obtain⟨zs13,zA13,zL13,zc13,zB13,zM13,zd13,e13,v13⟩:∃zs zA zL zc zB zM zd,vs 13= .agg #[.bool zs,.slice zA zL zc,.slice zB zM zd]∧Z10 w (.agg #[.bool zs,.slice zA zL zc,.slice zB zM zd]) (fq (i+1) - fq i):=fcG H hu hD 16 rfl rfl rfl;go_simp;refine(Z4v _ _ _ _ w v6 v13 (k+k+1) HL.o.1 HL.o.2 (by have:=HK.o;omega)).mono ?_;rintro e w' ⟨rfl,hb⟩;exact⟨_,rfl,fcC hK (fun f hf _ h=>bntK w0 b g fn px py A n c fq i s A1 L1 l1 A2 L2 l2 ri f hf _ _ _ hb h) (fcP 17 rfl rfl fun _=>rfl)⟩
 · intro Ls vs w Kk H hu hD hK;have f14:vs 14= .int .i64 (Z4n (fq i - fq (i - 1)) (fq (i+1) - fq i)):=fcG H hu hD 17 rfl rfl rfl;have HRE:=HRI.o;go_simp;exact fcV hK (fcP 18 rfl rfl fun _=>rfl)
 · intro Ls vs w Kk H hu hD hK;have f15:vs 15= .bool ri:=fcG H hu hD 18 rfl rfl rfl;go_simp;exact fcV hK (fcP 19 rfl rfl fun _=>rfl)
 · intro vs w H;have h0:Gq w0 w:=fcE H 0 rfl rfl;have f16:vs 16= .bool ri:=fcE H 19 rfl rfl;clear H;simp only[Nat.zero_add,Nat.reduceAdd];have HFIN:Hid (Gq w0 w):=h0;clear h0;simp only[f16];go_wp2_with fail;go_ret;exact⟨rfl,HGA.o.trans HFIN.o⟩
end Go.Proofs.YtcemlhbfemenpaaGreatDoor
namespace Go.Proofs.YtcemlhbfemenpaaGreatDoor
open Go.RowKit Go.Dw Go.Sort
theorem Zf0 (base:Nat)(v:Value)(xs:List Int)(w:World)(hbase:base≤w.heap.size)(hl:xs.length≤1000000)(hown:w.ownsRow base 3 1 v xs.length (ic xs)):
  Calls Tryz.prog 121 #[v] w fun e w'=>e= .returned (.tuple #[])∧w'.ownsRow base 3 1 v xs.length (ic (xs.mergeSort fun x y=>decide (x≤y)))∧Below base w w':=by
 rcases hown.2 with⟨rfl,h0⟩|⟨g,cap,cur,rfl,hb,hg,hn,hm,hs,ht⟩
 · have hx:xs= []:=Zk h0;subst hx;refine(Any.slices_Sort_int_none Tryz.lays189 none 0 w).mono ?_;rintro e w' ⟨rfl,rfl⟩;exact⟨rfl,⟨by simp[ic],.inl ⟨rfl,rfl⟩⟩,Zm _ _⟩
 · have hH:Holds (Value.int .i64) w g 0 xs.toArray:=holds_of_blockI hg (by rw[Nat.mul_one]at ht;exact ht);have hlt:g<w.heap.size:=(Array.getElem?_eq_some_iff.1 hg).1;refine(Any.slices_Sort_int Tryz.lays189 g 0 cap xs w hH hlt (by omega)).mono ?_;rintro e w' ⟨rfl,n,os,rfl⟩;refine⟨rfl,ownsRow_sortedI (by rw[List.length_mergeSort]) hb hg hn hm hs, ?_⟩;exact(Zm base w).grown (grownBy_sortedI _) hbase (fun k hk=>by injection hk with hk;omega)
theorem cptI_own (base:Nat)(v:Value)(xs:List Int)(w:World)(hbase:base≤w.heap.size)(hl:xs.length≤1000000)(hown:w.ownsRow base 3 1 v xs.length (ic xs)):
  Calls Tryz.prog 122 #[v] w fun e w'=>∃A c,e= .returned (.slice A (Lib.compact xs).length c)∧RdT 3 w' A (ic (Lib.compact xs))∧Below base w w':=by
 rcases hown.2 with⟨rfl,h0⟩|⟨g,cap,cur,rfl,hb,hg,hn,hm,hs,ht⟩
 · have hx:xs= []:=Zk h0;subst hx;refine(Any.slices_Compact_int_empty Tryz.lays2_20 none 0 w).mono ?_;rintro e w' ⟨rfl,rfl⟩;exact⟨none,0,rfl,RdT.nil _ _ _,Zm _ _⟩
 · have hH:Holds (Value.int .i64) w g 0 xs.toArray:=holds_of_blockI hg (by rw[Nat.mul_one]at ht;exact ht);have hlt:g<w.heap.size:=(Array.getElem?_eq_some_iff.1 hg).1;refine(Any.slices_Compact_int Tryz.lays2_20 g 0 cap xs w hH (by omega) hn).mono ?_;rintro e w' ⟨rfl,n,rfl⟩;have hgr:=grownBy_sortedI (w:=w) (g:=g) (n:=n) (os:= #[]) (Lib.compact xs++List.replicate (xs.length - (Lib.compact xs).length) 0).toArray;have hhp:=heap_sortedI (w:=w) (g:=g) (n:=n) (os:= #[]) (Lib.compact xs++List.replicate (xs.length - (Lib.compact xs).length) 0).toArray hg;have hle:(Lib.compact xs).length≤xs.length:=(by unfold Lib.compact Lib.compactUpTo;rw[List.length_map];exact Nat.le_trans (List.length_filter_le _ _) (by simp));have egr:∀W:World,grow W #[]=W:=fun W=>(by simp[grow]);rw[egr]at hgr hhp;refine⟨some ⟨g,0,none⟩,cap,rfl,⟨?_,fun b off e _=>by injection e with e;injection e with e1 _;subst e1;exact⟨_,_,hhp⟩⟩,(Zm base w).grown hgr hbase (fun k hk=>by injection hk with hk;omega)⟩;refine .inr ⟨g,0,rfl,Nat.lt_of_lt_of_le hlt hgr.size,fun j u hu=> ?_⟩;rw[Nat.zero_add,cell_of_row _ g j _ _ _ hhp];have hj:j<(Lib.compact xs).length:=(by have:=(List.getElem?_eq_some_iff.1 hu).1;simpa [ic]using this);have h2:=take_putCellsI cur (Lib.compact xs++List.replicate (xs.length - (Lib.compact xs).length) 0) (by rw[Zj,List.length_replicate];omega);have h3:(((putCells (Value.int .i64) 0 (Lib.compact xs++List.replicate (xs.length - (Lib.compact xs).length) 0).toArray cur).toList.take (Lib.compact xs++List.replicate (xs.length - (Lib.compact xs).length) 0).length)[j]? =((Lib.compact xs++List.replicate (xs.length - (Lib.compact xs).length) 0).map (Value.int .i64))[j]?):=(by rw[h2]);rw[List.getElem?_take_of_lt (by rw[Zj];omega),Array.getElem?_toList]at h3;rw[h3,←hu];rw[List.map_append,List.getElem?_append_left (by rw[List.length_map];exact hj)];rfl
end Go.Proofs.YtcemlhbfemenpaaGreatDoor
namespace Go.Proofs.YtcemlhbfemenpaaGreatDoor
open Go.RowKit Go.Dw
attribute [local go_sem ↓] Go.wp_at_zero Go.wp_at_succ
def Z4o (n:Int)(L:List Int):List Int:= [0,n - 1]++L.filter (fun b=>decide (0<b∧b<n - 1))
theorem insT_add (n:Int)(L:List Int)(z:Int):Z4o n (L++ [z])=Z4o n L++(if 0<z∧z<n - 1 then [z]else []):=by
 unfold Z4o;rw[List.filter_append,List.append_assoc];by_cases h:0<z∧z<n - 1
 · rw[if_pos h,List.filter_cons_of_pos (by simpa using h)];rfl
 · rw[if_neg h,List.filter_cons_of_neg (by simpa using h)];rfl
theorem insT_len (n:Int)(L:List Int):(Z4o n L).length≤L.length+2:=by
 unfold Z4o;rw[Zj];have:=List.length_filter_le (fun b=>decide (0<b∧b<n - 1)) L;simp only[List.length_cons,List.length_nil];omega
theorem below_of {a w w':World}(h:Gq a w)(hb:Below a.heap.size w w'):Gq a w':=Below.trans h hb
theorem ins_end {wz wr w9:World}{B k:Nat}{AO:Option Addr}{cO:Nat}{v9:Value}{T T':List Int}{o:Obj}{ss:List Value}(hg:Gq wz wr)(hz:wz.heap.size=B)(ho:wr.ownsRow B 3 1 (.slice AO k cO) k (ic T))(ht:ic T'=ic T++ss)
  (hown:w9.ownsRow B 3 1 v9 (k+1) (ic T++ss)) (hgr:(wr.alloc o).grownBy w9 (Value.slice AO k cO).ownBlock):Gq wz w9∧w9.ownsRow B 3 1 v9 (k+1) (ic T'):=
 ⟨Below.grown (hg.alloc o) hgr (by have:=Below.size hg;simp;omega) (fun j hj=>by have:=(ho.lt j hj).1;omega),by rw[ht];exact hown⟩
theorem Zcb (fv:Value)(A:Option Addr)(m c:Nat)(L:List Int)(n:Int)(w:World)(hr:Rd w A (ic L))(hm:m=L.length)(hl:L.length≤500000)(hn:1≤n∧n≤1000000):
  Calls Tryz.prog 80 #[.agg #[fv,.slice A m c],.int .i64 n] w fun e w'=>∃A' c',e= .returned (.slice A' (Z4j L n).length c')∧RdT 3 w' A' (ic (Z4j L n))∧Gq w w':=by
 obtain⟨b0,hb0⟩:∃b,w.heap.size=b:=⟨_,rfl⟩;obtain⟨wa,hwa⟩:∃wa,wa=w.alloc (.cells #[fv,.slice A m c] 77):=⟨_,rfl⟩;obtain⟨n1,hn1⟩:∃s,n - 1=s:=⟨_,rfl⟩;have hwr:IntKind.i64.wrap (n - 1)=n1:=by rw[←hn1];exact IntWalk.i64_in _ (by omega)
 obtain⟨wb,hwb⟩:∃wb,wb=wa.alloc (.cells #[.int .i64 0,.int .i64 n1] 3):=⟨_,rfl⟩;have hga:Gq w wa:=by rw[hwa];exact(Gq.refl _).alloc _
 have hgb:Gq wa wb:=by rw[hwb];exact(Gq.refl _).alloc _
 have hza:wa.heap.size=b0+1:=by rw[hwa];simp;omega
 have HZA:Hid (wa.heap.size=b0+1):=hza;have HGA:Hid (Gq w wa):=hga;have HGB:Hid (Gq wa wb):=hgb;have HKA:Hid (Blk wa b0 77 [fv,.slice A m c]):=by rw[hwa,←hb0];exact Blk.new w _ _
 have HO0:Hid (wb.ownsRow (b0+1) 3 1 (.slice (some ⟨b0+1,0,none⟩) 2 2) 2 (ic (Z4o n []))):=by have h:=World.ownsRow_lit (base:=b0+1) (e:=3) (size:=1) wa #[.int .i64 0,.int .i64 n1] 2 (by omega) (by decide) rfl;rw[hza]at h;rw[hwb];have e:ic (Z4o n [])= [.int .i64 0,.int .i64 n1]:=(by rw[←hn1];rfl);rw[e];exact h
 have HRD:=Za hr;have HLE:Hid (m=L.length∧L.length≤500000∧1≤n∧n≤1000000∧n - 1=n1):=⟨hm,hl,hn.1,hn.2,hn1⟩;have HB0:=Za hb0;have HKB:Hid (Blk wb b0 77 [fv,.slice A m c]):=Z0o HKA.o hgb;obtain⟨I,hI⟩:∃I,Z4j L n=I:=⟨_,rfl⟩;have HI:Hid (Lib.compact ((Z4o n L).mergeSort fun x y=>decide (x≤y))=I):=hI;rw[hI];have HWA:=Za hwa;have HWB:=Za hwb;have k1:wa.cell? ⟨b0,1,none⟩=some (.slice A m c):=HKA.o.cell 1;obtain⟨ii,hii,hzi0,hzi1,hzi2⟩:=info_parts Zey;have HII:=Za (And.intro hii (And.intro hzi0 (And.intro hzi1 hzi2)));clear hwa hwb hga hgb hza hr hm hl hn hn1 hI HKA hii hzi0 hzi1 hzi2;go_enter Tryz.func80,Tryz.ntmps80;go_upto_region 1 with(fail);rw[←HWA.o];go_upto_region 2 with(fail);rw[←HWB.o];try simp only[hb0]
 try simp only[HZA.o]
 clear hb0 k1;have k1:wb.cell? ⟨b0,1,none⟩=some (.slice A m c):=HKB.o.cell 1;go_wp2_with fail;clear k1
 go_loopw [5,14] (fun ov kv wq=>∃(j k:Nat) (AO:Option Addr) (cO:Nat),j≤m∧kv= .int .i64 (j:Int)∧ov= .slice AO k cO∧k≤j+2∧Hid (wq.ownsRow (b0+1) 3 1 (.slice AO k cO) k (ic (Z4o n (L.take j)))∧k=(Z4o n (L.take j)).length)∧Hid (Gq wa wq)) (fun _ kv _=>m - (intOf kv).toNat)
 case atStart=>exact⟨0,2,some ⟨b0+1,0,none⟩,2,Nat.zero_le _,rfl,rfl,Zh _,⟨HO0.o,rfl⟩,HGB.o⟩
 case round=>
  obtain⟨j,k,AO,cO,hj,rfl,rfl,hkj,HOW,HG⟩:=hrel;by_cases hlt:j<m
  case neg=>
   have hd0:decide (j<m)=false:=(by simpa using hlt);have HOE:Hid (wr.ownsRow (b0+1) 3 1 (.slice AO k cO) (Z4o n L).length (ic (Z4o n L))):=(by have h:=HOW.o;rw[Zl (by have:=HLE.o.1;omega)]at h;rw[←h.2];exact h.1);have HLN:Hid ((Z4o n L).length≤1000000):=(by have h1:=insT_len n L;have h2:=HLE.o.2.1;show _≤_;omega);have HZR:Hid (b0+1≤wr.heap.size):=(by have h1:=Below.size HG.o;have h2:=HZA.o;show _≤_;omega);have HC1:=Za (Zf0 (b0+1) (.slice AO k cO) (Z4o n L) wr HZR.o HLN.o HOE.o);clear HOW hlt HOE;go_wp2_with fail;refine HC1.o.mono ?_;rintro e w2 ⟨rfl,ho2,hb2⟩;have hl2:((Z4o n L).mergeSort fun x y=>decide (x≤y)).length=(Z4o n L).length:=List.length_mergeSort _;rw[←hl2]at ho2;have HC2:=Za (cptI_own (b0+1) (.slice AO k cO) ((Z4o n L).mergeSort fun x y=>decide (x≤y)) w2 (Nat.le_trans HZR.o hb2.size) (by rw[hl2];exact HLN.o) ho2);have HB2:=Za hb2;clear ho2 hb2 hl2 HC1;go_wp2_with fail;refine HC2.o.mono ?_;rintro e w3 ⟨A3,c3,rfl,hr3,hb3⟩;rw[HI.o]at hr3⊢
   have HFIN:Hid (∃A' c',Ending.returned (.slice A3 I.length c3)= .returned (.slice A' I.length c')∧RdT 3 w3 A' (ic I)∧Gq w w3):=
    ⟨A3,c3,rfl,hr3,HGA.o.trans (below_of HG.o (by rw[HZA.o];exact HB2.o.trans hb3))⟩
   clear hr3 hb3 HC2;go_wp2_with fail;go_ret;exact HFIN.o
  have hd0:decide (j<m)=true:=by simpa using hlt
  have hjl:j<L.length:=by have:=HLE.o.1;omega
  have HGW:Hid (Gq w wr):=HGA.o.trans HG.o;obtain⟨b,off,hA,hbb,hcs⟩:=Rd.at_ (HRD.o.below HGW.o) (by show 0<(ic L).length;simp[ic];omega);obtain rfl:A=some ⟨b,off,none⟩:=hA;obtain⟨z,hz⟩:∃z,L[j]=z:=⟨_,rfl⟩;have d0:wr.cell? ⟨b,off+j,none⟩=some (.int .i64 z):=hcs j _ (by unfold ic;rw[List.getElem?_map,Zi hjl,hz];rfl);have HTK:Hid (Z4o n (L.take (j+1))=Z4o n (L.take j)++(if 0<z∧z<n - 1 then [z]else [])):=by show _=_;rw[List.take_add_one,Zi hjl,hz];exact insT_add _ _ _
  have hm5:m≤500000:=by have h1:=HLE.o.1;have h2:=HLE.o.2.1;omega
  have i0:(0:Int)≤(j:Int):=by omega
  have i1:(j:Int)<(m:Int):=by omega
  clear hcs hz hjl;by_cases h0:0<z
  case neg=>
   have hd1:decide (0<z)=false:=(by simpa using h0);have HT:Hid (Z4o n (L.take (j+1))=Z4o n (L.take j)):=(by have:=HTK.o;rw[if_neg (fun q=>h0 q.1),List.append_nil]at this;exact this);clear h0;go_wp2_with fail;go_roundw
   case rel=>exact⟨j+1,k,AO,cO,by omega,by go_num,rfl,by omega,by rw[HT.o];exact HOW.o,HG.o⟩
   case measure=>simp[intOf];omega
  have hd1:decide (0<z)=true:=by simpa using h0
  by_cases h1:z<n1
  case neg=>
   have hd2:decide (z<n1)=false:=(by simpa using h1);have HT:Hid (Z4o n (L.take (j+1))=Z4o n (L.take j)):=(by have:=HTK.o;rw[if_neg (fun q=>h1 (by have:=HLE.o.2.2.2.2;omega)),List.append_nil]at this;exact this);clear h0 h1;go_wp2_with fail;go_roundw
   case rel=>exact⟨j+1,k,AO,cO,by omega,by go_num,rfl,by omega,by rw[HT.o];exact HOW.o,HG.o⟩
   case measure=>simp[intOf];omega
  have hd2:decide (z<n1)=true:=by simpa using h1
  have HT:Hid (Z4o n (L.take (j+1))=Z4o n (L.take j)++ [z]):=by have:=HTK.o;rw[if_pos ⟨h0,by have:=HLE.o.2.2.2.2;omega⟩]at this;exact this
  have HTC:Hid (ic (Z4o n (L.take (j+1)))=ic (Z4o n (L.take j))++ [.int .i64 z]∧(Z4o n (L.take (j+1))).length=k+1):=by refine⟨by rw[HT.o];exact Zez _ _, ?_⟩;rw[HT.o,Zj,←HOW.o.2];rfl
  clear h0 h1 HTK HT;go_wp2_with (at_builtin; (refine wpList_append_own _ rfl _ _ 65 rfl (b0+1) 3 ii _ 1 8 Tryz.underlying65 HII.o.1 HII.o.2.1 HII.o.2.2.1 HII.o.2.2.2 rfl (by decide) (.slice AO k cO) k (ic (Z4o n (L.take j))) rfl (HOW.o.1.alloc _) ⟨wr.heap.size,0,none⟩ 1 1 [.int .i64 z] (by rfl) (by rfl) (World.news_of_block (cs:= #[.int .i64 z]) (t:=3) (fr:=(0,0)) (by exact heap_alloc_new wr _)) (by simp[Value.oneCell']) (by unfold maxLen;have:=HLE.o.1;have:=HLE.o.2.1;omega) (by have:=HLE.o.1;have:=HLE.o.2.1;omega) (by have h1:=Below.size HG.o;have h2:=HZA.o;simp;omega) ?_);intro v9 w9 hown9 hgrow9 _;have hend:=ins_end HG.o HZA.o HOW.o.1 HTC.o.1 hown9 hgrow9;obtain⟨A9,c9,rfl⟩:=Z08 hown9;have HE9:=Za hend;clear hend hown9 hgrow9);go_roundw
  case rel=>exact⟨j+1,k+1,A9,c9,by omega,by go_num,rfl,by omega,⟨HE9.o.2,HTC.o.2.symm⟩,HE9.o.1⟩
  case measure=>simp[intOf];omega
end Go.Proofs.YtcemlhbfemenpaaGreatDoor
namespace Go.Proofs.YtcemlhbfemenpaaGreatDoor
open Go.RowKit Go.Dw
open Go.Dwo (fcL fcN fcK fcZ fcG fcE fcD fcV fcC fcP Z00)
attribute [local go_sem ↓] Go.wp_at_zero Go.wp_at_succ
attribute [local go_sem] Go.Dwo.Oper.tame Go.Dwo.actOf List.getD_cons_zero List.getD_cons_succ
theorem Z7n (i:Int)(s d:ByteArray):Tryz.prog.built 61 [(0,.int .i64 i),(1,.agg #[.string s,.string d])]=some #[.int .i64 i,.string s,.string d]:=by kernel_rfl
theorem Zf1:(Tryz.prog.info? 61).map (fun i=>(i.zero,i.size,i.bytes))=some (some (.agg #[.int .i64 0,.string ⟨#[]⟩,.string ⟨#[]⟩]),3,40):=by kernel_rfl
theorem pln1_any (fn:Nat)(px py:Value)(A:Option Addr)(m c:Nat)(fq:Int→Rat)(lo hi:Int)(k g:Nat)(i:Int)(w:World)(hb:Blk w g 77 [.func (.func fn) #[] #[px,py],.slice A m c])(hf:FunV w fn px py fq lo hi k)(h1:lo≤i)(h2:i≤hi)(hk:k≤1000000):
  Calls Tryz.prog 77 #[.int .i64 i,.pointer (some ⟨g,0,none⟩)] w fun e w'=>e= .returned (.agg #[.int .i64 i,.string (Z0n fq i).n,.string (Z0n fq i).d])∧Gq w w':=by
 obtain⟨wz,hwz⟩:∃wz,wz=w.alloc (.cells #[.int .i64 0,.string ⟨#[]⟩,.string ⟨#[]⟩] 61):=⟨_,rfl⟩;have hg:Gq w wz:=by rw[hwz];exact(Gq.refl _).alloc _
 have HG:=Za hg;have HKR:Hid (Blk wz w.heap.size 61 [.int .i64 0,.string ⟨#[]⟩,.string ⟨#[]⟩]):=by rw[hwz];exact Blk.new w _ _
 have y0:wz.cell? ⟨g,0,none⟩=some (.func (.func fn) #[] #[px,py]):=(Z0o hb hg).cell 0;have hent:=hf.ent;have HC1:=Za (hf.run i wz hg h1 h2);have HL:=Za (hf.lim i h1 h2);have HK:=Za hk;obtain⟨s,hs⟩:∃s,(Z0n fq i).n=s:=⟨_,rfl⟩;obtain⟨d,hd⟩:∃d,(Z0n fq i).d=d:=⟨_,rfl⟩;have HTX:Hid (Zew (fq i)= .agg #[.string s,.string d]):=by rw[←hs,←hd];rfl
 rw[hs,hd];have HWZ:=Za hwz;clear hwz hg hb hf h1 h2 hk hs hd;go_enter Tryz.func77,Tryz.ntmps77;go_upto_region 1 with(fail);rw[←HWZ.o];go_wp2_with fail;refine HC1.o.mono ?_;rintro e w2 ⟨v,rfl,hv,hg2⟩;obtain⟨zs,zA,zL,zc,zB,zM,zd,rfl⟩:=Z0m hv;have HC2:=Za (Z9p _ _ w2 hv k HL.o HK.o);have HG2:Hid (Gq wz w2):=hg2;clear hv hg2 HC1 y0 hent;go_wp2_with fail;refine HC2.o.mono ?_;rintro e w3 ⟨rfl,hg3⟩;rw[HTX.o];have hrun:=run_build (P:=Tryz.prog) w3 61 _ _ (Z7n i s d);have hk3:=Z0o HKR.o (HG2.o.trans hg3);have q0:w3.cell? ⟨w.heap.size,0,none⟩=some (.int .i64 0):=hk3.cell 0;have q1:w3.cell? ⟨w.heap.size,1,none⟩=some (.string ⟨#[]⟩):=hk3.cell 1;have q2:w3.cell? ⟨w.heap.size,2,none⟩=some (.string ⟨#[]⟩):=hk3.cell 2;have f0:=hk3.frozen 0;have f1:=hk3.frozen 1;have f2:=hk3.frozen 2;have hkf:=Z1o [.int .i64 i,.string s,.string d] hk3 rfl;have HGF:Hid (Gq w (Z4s w3 w.heap.size 0 [.int .i64 i,.string s,.string d])):=Z0t (Zh _) _ _ _ (HG.o.trans (HG2.o.trans hg3));obtain⟨wf,hwf⟩:∃wf,Z4s w3 w.heap.size 0 [.int .i64 i,.string s,.string d]=wf:=⟨_,rfl⟩;rw[hwf]at hkf HGF;have hwf2:((w3.setCell ⟨w.heap.size,0,none⟩ (.int .i64 i)).setCell ⟨w.heap.size,1,none⟩ (.string s)).setCell ⟨w.heap.size,2,none⟩ (.string d)=wf:=hwf;have HWF:=Za hwf2;have k0:wf.cell? ⟨w.heap.size,0,none⟩=some _:=hkf.cell 0;have k1:wf.cell? ⟨w.heap.size,1,none⟩=some _:=hkf.cell 1;have k2:wf.cell? ⟨w.heap.size,2,none⟩=some _:=hkf.cell 2;clear hk3 hkf hwf hwf2 hg3 HC2;go_wp2_with fail;rw[HWF.o];exact bodyPost_ret (v:= .agg #[.int .i64 i,.string s,.string d]) (by simp[results,Tryz.results77,go_sem,k0,k1,k2]) rfl ⟨rfl,HGF.o⟩
def Z32 (fq:Int→Rat)(O:List Int):List Value:=(O.map (Z0n fq)).flatMap Pnt.cs
theorem Zf2 (fq:Int→Rat)(O:List Int)(i:Int):Z32 fq (O++ [i])=Z32 fq O++ [.int .i64 i,.string (Z0n fq i).n,.string (Z0n fq i).d]:=by
 unfold Z32;rw[List.map_append,List.flatMap_append];rfl
theorem Z3y {w0 wr w9:World}{B:Nat}{AO:Option Addr}{cO:Nat}{v9:Value}{fq:Int→Rat}{O:List Int}{i:Int}{o:Obj}(hg:Gq w0 wr)(hz:w0.heap.size=B)(ho:wr.ownsRow B 61 3 (.slice AO O.length cO) O.length (Z32 fq O))
  (hown:w9.ownsRow B 61 3 v9 (O.length+1) (Z32 fq O++ [.int .i64 i,.string (Z0n fq i).n,.string (Z0n fq i).d])) (hgr:(wr.alloc o).grownBy w9 (Value.slice AO O.length cO).ownBlock):
  Gq w0 w9∧w9.ownsRow B 61 3 v9 (O++ [i]).length (Z32 fq (O++ [i]))∧KpT 3 wr w9:=by
 refine⟨Below.grown (hg.alloc o) hgr (by have:=Below.size hg;simp;omega) (fun j hj=>by have:=(ho.lt j hj).1;omega), ?_, ?_⟩
 · rw[Zf2,Zj];exact hown
 · exact(KpT.refl _ wr|>.alloc o).trans (KpT.own (ho.alloc o) hgr (by decide))
theorem Z65 {w:World}{B c:Nat}{A:Option Addr}{O:List Int}{i:Int}{xs:List Value}(h:w.ownsRow B 61 3 (.slice A (O.length+1) c) (O++ [i]).length xs):w.ownsRow B 61 3 (.slice A (O++ [i]).length c) (O++ [i]).length xs:=by
 rw[Zj]at h⊢;exact h
def PlnR (ps:List Pnt)(w:World)(e:Ending)(w':World):Prop:=
 Gq w w'∧∃A' c',e= .returned (.slice A' ps.length c')∧w'.ownsRow w.heap.size 61 3 (.slice A' ps.length c') ps.length (ps.flatMap Pnt.cs)
def plhF (w0:World)(b0 fn:Nat)(px py:Value)(A:Option Addr)(m c:Nat)(fq:Int→Rat)(ri:Bool):List Go.Dwo.Fact:= [
 ⟨[],[],fun _ W=>Gq w0 W⟩,
 ⟨[],[],fun _ W=>Blk W b0 77 [.func (.func fn) #[] #[px,py],.slice A m c]⟩,
 ⟨[0],[],fun vs _=>vs 0= .pointer (some ⟨b0,0,none⟩)⟩,
 ⟨[1],[],fun vs _=>vs 1= .func (.func fn) #[] #[px,py]⟩,
 ⟨[2],[],fun vs W=>∃zs zA zL zc zB zM zd,vs 2= .agg #[.bool zs,.slice zA zL zc,.slice zB zM zd]∧Z10 W (.agg #[.bool zs,.slice zA zL zc,.slice zB zM zd]) (fq (0))⟩,
 ⟨[3],[],fun vs _=>vs 3= .pointer (some ⟨b0,0,none⟩)⟩,
 ⟨[4],[],fun vs _=>vs 4= .func (.func fn) #[] #[px,py]⟩,
 ⟨[5],[],fun vs W=>∃zs zA zL zc zB zM zd,vs 5= .agg #[.bool zs,.slice zA zL zc,.slice zB zM zd]∧Z10 W (.agg #[.bool zs,.slice zA zL zc,.slice zB zM zd]) (fq (1))⟩,
 ⟨[6],[],fun vs _=>vs 6= .int .i64 (Z4n (fq (0)) (fq (1)))⟩,
 ⟨[7],[],fun vs _=>vs 7= .bool ri⟩]
theorem plhK (w0:World)(b0 fn:Nat)(px py:Value)(A:Option Addr)(m c:Nat)(fq:Int→Rat)(ri:Bool):∀f∈plhF w0 b0 fn px py A m c fq ri,∀vs w w',Gq w w'→f.says vs w→f.says vs w':=
 fcL (fun _ _ _ hg h=>h.trans hg)<|fcL (fun _ _ _ hg h=>Z0o h hg)<|fcL (fun _ _ _ _ h=>h)<|fcL (fun _ _ _ _ h=>h)<|fcL (fun _ _ _ hg h=>(by obtain⟨zs,zA,zL,zc,zB,zM,zd,h1,h2⟩:=h;exact⟨zs,zA,zL,zc,zB,zM,zd,h1,h2.gq hg⟩))<|fcL (fun _ _ _ _ h=>h)<|fcL (fun _ _ _ _ h=>h)<|fcL (fun _ _ _ hg h=>(by obtain⟨zs,zA,zL,zc,zB,zM,zd,h1,h2⟩:=h;exact⟨zs,zA,zL,zc,zB,zM,zd,h1,h2.gq hg⟩))<|fcL (fun _ _ _ _ h=>h)<|fcL (fun _ _ _ _ h=>h)<|fcN _
def pltF (w0:World)(b0 fn:Nat)(px py:Value)(A:Option Addr)(m c:Nat)(fq:Int→Rat)(n:Int)(ri:Bool):List Go.Dwo.Fact:= [
 ⟨[],[],fun _ W=>Gq w0 W⟩,
 ⟨[],[],fun _ W=>Blk W b0 77 [.func (.func fn) #[] #[px,py],.slice A m c]⟩,
 ⟨[0],[],fun vs _=>vs 0= .pointer (some ⟨b0,0,none⟩)⟩,
 ⟨[1],[],fun vs _=>vs 1= .func (.func fn) #[] #[px,py]⟩,
 ⟨[2],[],fun vs _=>vs 2= .int .i64 n⟩,
 ⟨[3],[],fun vs _=>vs 3= .int .i64 (n - 1)⟩,
 ⟨[4],[],fun vs W=>∃zs zA zL zc zB zM zd,vs 4= .agg #[.bool zs,.slice zA zL zc,.slice zB zM zd]∧Z10 W (.agg #[.bool zs,.slice zA zL zc,.slice zB zM zd]) (fq (n - 1))⟩,
 ⟨[5],[],fun vs _=>vs 5= .pointer (some ⟨b0,0,none⟩)⟩,
 ⟨[6],[],fun vs _=>vs 6= .func (.func fn) #[] #[px,py]⟩,
 ⟨[7],[],fun vs _=>vs 7= .int .i64 n⟩,
 ⟨[8],[],fun vs _=>vs 8= .int .i64 (n - 2)⟩,
 ⟨[9],[],fun vs W=>∃zs zA zL zc zB zM zd,vs 9= .agg #[.bool zs,.slice zA zL zc,.slice zB zM zd]∧Z10 W (.agg #[.bool zs,.slice zA zL zc,.slice zB zM zd]) (fq (n - 2))⟩,
 ⟨[10],[],fun vs _=>vs 10= .int .i64 (Z4n (fq (n - 1)) (fq (n - 2)))⟩,
 ⟨[11],[],fun vs _=>vs 11= .bool ri⟩]
theorem pltK (w0:World)(b0 fn:Nat)(px py:Value)(A:Option Addr)(m c:Nat)(fq:Int→Rat)(n:Int)(ri:Bool):∀f∈pltF w0 b0 fn px py A m c fq n ri,∀vs w w',Gq w w'→f.says vs w→f.says vs w':=
 fcL (fun _ _ _ hg h=>h.trans hg)<|fcL (fun _ _ _ hg h=>Z0o h hg)<|fcL (fun _ _ _ _ h=>h)<|fcL (fun _ _ _ _ h=>h)<|fcL (fun _ _ _ _ h=>h)<|fcL (fun _ _ _ _ h=>h)<|fcL (fun _ _ _ hg h=>(by obtain⟨zs,zA,zL,zc,zB,zM,zd,h1,h2⟩:=h;exact⟨zs,zA,zL,zc,zB,zM,zd,h1,h2.gq hg⟩))<|fcL (fun _ _ _ _ h=>h)<|fcL (fun _ _ _ _ h=>h)<|fcL (fun _ _ _ _ h=>h)<|fcL (fun _ _ _ _ h=>h)<|fcL (fun _ _ _ hg h=>(by obtain⟨zs,zA,zL,zc,zB,zM,zd,h1,h2⟩:=h;exact⟨zs,zA,zL,zc,zB,zM,zd,h1,h2.gq hg⟩))<|fcL (fun _ _ _ _ h=>h)<|fcL (fun _ _ _ _ h=>h)<|fcN _
theorem Zf3 (fn:Nat)(px py:Value)(A:Option Addr)(m c:Nat)(fq:Int→Rat)(L:List Int)(k:Nat)(n:Int)(w:World)(hf:FunV w fn px py fq 0 (n - 1) k)(hr:Rd w A (ic L))(hm:m=L.length)(hl:L.length≤500000)(hn:1≤n∧n≤100000)(hk:k≤300000):
  Calls Tryz.prog 49 #[.agg #[.func (.func fn) #[] #[px,py],.slice A m c],.int .i64 n] w (PlnR (Zer fq L n.toNat) w):=by
 obtain⟨q,hq⟩:∃q,PlnR (Zer fq L n.toNat) w=q:=⟨_,rfl⟩;obtain⟨b0,hb0⟩:∃b,w.heap.size=b:=⟨_,rfl⟩;obtain⟨w0,hw0⟩:∃w0,w0=w.alloc (.cells #[.func (.func fn) #[] #[px,py],.slice A m c] 77):=⟨_,rfl⟩;have hg0:Gq w w0:=by rw[hw0];exact(Gq.refl _).alloc _
 have HG0:=Za hg0;have HZ0:Hid (w0.heap.size=b0+1):=by show _=_;rw[hw0];simp;omega
 have HKB:Hid (Blk w0 b0 77 [.func (.func fn) #[] #[px,py],.slice A m c]):=by rw[hw0,←hb0];exact Blk.new w _ _
 have HF:Hid (FunV w0 fn px py fq 0 (n - 1) k):=hf.gq hg0;have HK:Hid (k≤300000):=hk;have HN:Hid (1≤n∧n≤100000):=hn;obtain⟨FN,hFN⟩:∃FN,plnB fq L n.toNat=FN:=⟨_,rfl⟩
 have HEND:Hid (∀(O:List Int) (AO:Option Addr) (cO:Nat) (W:World),O=FN→W.ownsRow (b0+1) 61 3 (.slice AO O.length cO) O.length (Z32 fq O)→Gq w0 W→q (.returned (.slice AO O.length cO)) W):=fun O AO cO W hO ho hW=>by
  rw[←hq];have e1:(Zer fq L n.toNat)=O.map (Z0n fq):=by unfold Zer;rw[hFN,hO]
  refine⟨hg0.trans hW,AO,cO, ?_, ?_⟩
  · rw[e1,List.length_map]
  · rw[e1,List.length_map,hb0];exact Z5e ho (by omega)
 have HN1:Hid (n=1→ [(0:Int)]=FN):=fun h=>by rw[←hFN];unfold plnB;rw[if_pos (by omega)]
 obtain⟨S,hS⟩:∃S,Z2g fq (Z4j L n) (hdQ fq n.toNat)=S:=⟨_,rfl⟩;have HN2:Hid (n≠1→orZero (S++tlQ fq n.toNat)=FN):=fun h=>by rw[←hFN,←hS];unfold plnB;rw[if_neg (by omega),show((n.toNat:Nat):Int)=n by omega]
 have HSG:Hid (Z2g fq (Z4j L n) (hdQ fq n.toNat)=S):=hS
 have HHD:Hid (n≠1→∀r,(Z4n (fq 0) (fq 1) !=0)=r→hdQ fq n.toNat=if r=true then [0]else []):=fun h r hr=>by
  unfold hdQ;have hz:=Z1t (fq 0) (fq 1);cases r with
  |true=>
   have:fq 0≠fq 1:=fun e=>(by rw[hz.2 e]at hr;cases hr);rw[if_pos ⟨by omega,this⟩];rfl
  |false=>
   have:fq 0=fq 1:=hz.1 (by simpa using hr);rw[if_neg (fun g=>g.2 this)];rfl
 have HTL:Hid (n≠1→∀r,(Z4n (fq (n - 1)) (fq (n - 2)) !=0)=r→tlQ fq n.toNat=if r=true then [n - 1]else []):=fun h r hr=>by
  unfold tlQ;have hz:=Z1t (fq (n - 1)) (fq (n - 2));rw[show((n.toNat:Nat):Int)=n by omega];cases r with
  |true=>
   have:fq (n - 1)≠fq (n - 2):=fun e=>(by rw[hz.2 e]at hr;cases hr);rw[if_pos ⟨by omega,this⟩];rfl
  |false=>
   have:fq (n - 1)=fq (n - 2):=hz.1 (by simpa using hr);rw[if_neg (fun g=>g.2 this)];rfl
 have HPT:Hid (∀(i:Int) (W:World),Gq w0 W→0≤i→i≤n - 1→Calls Tryz.prog 77 #[.int .i64 i,.pointer (some ⟨b0,0,none⟩)] W fun e w'=>e= .returned (.agg #[.int .i64 i,.string (Z0n fq i).n,.string (Z0n fq i).d])∧Gq W w'):=fun i W hW h1 h2=>
  pln1_any fn px py A m c fq 0 (n - 1) k b0 i W (Z0o HKB.o hW) (HF.o.gq hW) h1 h2 (by have:=HK.o;omega)
 have HIN:Hid (∀W,Gq w0 W→Calls Tryz.prog 80 #[.agg #[.func (.func fn) #[] #[px,py],.slice A m c],.int .i64 n] W fun e w'=>∃A' c',e= .returned (.slice A' (Z4j L n).length c')∧RdT 3 w' A' (ic (Z4j L n))∧Gq W w'):=fun W hW=>
  Zcb _ A m c L n W (hr.below (hg0.trans hW)) hm hl (by omega)
 have HBN:Hid (∀(i:Int) (W:World),Gq w0 W→0≤i - 1→i+1≤n - 1→Calls Tryz.prog 81 #[.agg #[.func (.func fn) #[] #[px,py],.slice A m c],.int .i64 i] W fun e w'=>e= .returned (.bool (Z3p fq i))∧Gq W w'):=fun i W hW h1 h2=>
  bent_any fn px py A m c fq 0 (n - 1) k i W (HF.o.gq hW) h1 h2 (by have:=HN.o;omega) (by have:=HK.o;omega)
 have HIM:Hid ((∀x∈Z4j L n,0≤x∧x≤n - 1)∧(Z4j L n).Pairwise (· < ·)∧(Z4j L n).length≤500002∧0<(Z4j L n).length):=
  ⟨fun x hx=>Z4l (by omega) hx,Z9m L n,by have:=Zaz L n;omega,List.length_pos_of_mem (Z4k.2 (.inl rfl))⟩
 obtain⟨ii,hii,hzi0,hzi1,hzi2⟩:=info_parts Zf1;have HII:=Za (And.intro hii (And.intro hzi0 (And.intro hzi1 hzi2)));rw[hq];have HW0:=Za hw0;clear hq hw0 hg0 hf hr hm hl hn hk hFN hS hii hzi0 hzi1 hzi2;go_enter Tryz.func49,Tryz.ntmps49;go_upto_region 1 with(fail);rw[←HW0.o];try simp only[hb0]
 clear hb0;by_cases h1:n=1
 · have hd0:(n==1)=true:=(by simpa using h1);have HE1:=Za (HN1.o h1);have HB1:Hid (0≤n - 1):=(by have:=HN.o;show _≤_;omega);clear h1;go_wp2_with fail;refine(HPT.o (0) w0 (Gq.refl _) (by have:=HB1.o;omega) (by have:=HB1.o;omega)).mono ?_;rintro e w5 ⟨rfl,hg5⟩;have HG9:Hid (Gq w0 w5):=(Gq.refl _).trans hg5;have HG5:Hid (Gq w0 w5):=hg5;have HZ9:Hid (b0+1≤w5.heap.size):=(by have h1:=Below.size HG9.o;have h2:=HZ0.o;show _≤_;omega);clear hg5;go_wp2_with fail;refine HEND.o [0] (some ⟨w5.heap.size,0,none⟩) 1 _ HE1.o ?_ ((HG9.o).alloc _);have h:=World.ownsRow_lit (base:=b0+1) (e:=61) (size:=3) w5 #[.int .i64 0,.string (Z0n fq 0).n,.string (Z0n fq 0).d] 1 HZ9.o (by decide) rfl;exact h
 have hd0:(n==1)=false:=by simpa using h1
 have HNE:=Za h1;have h2n:2≤n:=by have:=HN.o;omega
 have HI:Hid (2≤n∧n≤100000):=⟨h2n,HN.o.2⟩;have HWR:Hid (IntKind.i64.wrap (n - 1)=n - 1∧IntKind.i64.wrap (n - 2)=n - 2):=⟨IntWalk.i64_in _ (by have:=HN.o;omega),IntWalk.i64_in _ (by have:=HN.o;omega)⟩;clear h1;obtain⟨ri,hri⟩:∃r,(Z4n (fq 0) (fq 1) !=0)=r:=⟨_,rfl⟩;have HRI:=Za hri;have HH1:=Za (HHD.o HNE.o ri hri);clear hri HHD;go_upto_region 5 with(fail)
 go_cut [25] (fun v25 wx=>v25= .bool ri∧Hid (Gq w0 wx))
 case first=>
  have HBASE:Hid (Gq w0 w0.drew∧Blk w0.drew b0 77 [.func (.func fn) #[] #[px,py],.slice A m c]):=⟨(Gq.refl _).drew,Z0o HKB.o (Gq.refl _).drew⟩;refine Z00 _ (by kernel_rfl) [[],[0],[0,1],[],[3],[3,4],[0,1,2,3,4,5],[0,1,2,3,4,5,6]] (by kernel_rfl) (by kernel_rfl) [some 18,some 19,some 20,some 21,some 22,some 23,some 24,some 25] (by kernel_rfl) (fun vs=>by simp only[Go.Dwo.putA,Go.Dwo.putL,if_true,Act.put,Zb,Zc,Zd];rfl) (plhF w0 b0 fn px py A m c fq ri) (by kernel_rfl) ?_ ⟨?_, ?_, ?_, ?_, ?_, ?_, ?_, ?_,trivial⟩ ?_
  · exact fcZ [0,1] rfl<|fcL (HBASE.o.1)<|fcL (HBASE.o.2)<|fcN _
  · intro Ls vs w Kk H hu hD hK;go_simp;exact fcV hK (fcP 2 rfl rfl fun _=>rfl)
  · intro Ls vs w Kk H hu hD hK;have kb:Blk w b0 77 [.func (.func fn) #[] #[px,py],.slice A m c]:=fcG H hu hD 1 rfl rfl rfl;have f0:vs 0= .pointer (some ⟨b0,0,none⟩):=fcG H hu hD 2 rfl rfl rfl;have y0:w.cell? ⟨b0,0,none⟩=_:=kb.cell 0;simp only[Ze]at y0;go_simp;exact fcV hK (fcP 3 rfl rfl fun _=>rfl)
  · intro Ls vs w Kk H hu hD hK;have h0:Gq w0 w:=fcG H hu hD 0 rfl rfl rfl;have f1:vs 1= .func (.func fn) #[] #[px,py]:=fcG H hu hD 3 rfl rfl rfl;have hent:=HF.o.ent;go_simp;refine(HF.o.run (0) w h0 (by have:=HI.o;omega) (by have:=HI.o;omega)).mono ?_;rintro e w' ⟨v,rfl,hv,hb⟩;obtain⟨zs,zA,zL,zc,zB,zM,zd,rfl⟩:=Z0m hv;exact⟨_,rfl,fcC hK (fun f hf _ h=>plhK w0 b0 fn px py A m c fq ri f hf _ _ _ hb h) (fcP 4 rfl rfl fun _=>⟨zs,zA,zL,zc,zB,zM,zd,rfl,hv⟩)⟩
  · intro Ls vs w Kk H hu hD hK;go_simp;exact fcV hK (fcP 5 rfl rfl fun _=>rfl)
  · intro Ls vs w Kk H hu hD hK;have kb:Blk w b0 77 [.func (.func fn) #[] #[px,py],.slice A m c]:=fcG H hu hD 1 rfl rfl rfl;have f3:vs 3= .pointer (some ⟨b0,0,none⟩):=fcG H hu hD 5 rfl rfl rfl;have y0:w.cell? ⟨b0,0,none⟩=_:=kb.cell 0;simp only[Ze]at y0;go_simp;exact fcV hK (fcP 6 rfl rfl fun _=>rfl)
  · intro Ls vs w Kk H hu hD hK;have h0:Gq w0 w:=fcG H hu hD 0 rfl rfl rfl;have f4:vs 4= .func (.func fn) #[] #[px,py]:=fcG H hu hD 6 rfl rfl rfl;have hent:=HF.o.ent;go_simp;refine(HF.o.run (1) w h0 (by have:=HI.o;omega) (by have:=HI.o;omega)).mono ?_;rintro e w' ⟨v,rfl,hv,hb⟩;obtain⟨zs,zA,zL,zc,zB,zM,zd,rfl⟩:=Z0m hv;exact⟨_,rfl,fcC hK (fun f hf _ h=>plhK w0 b0 fn px py A m c fq ri f hf _ _ _ hb h) (fcP 7 rfl rfl fun _=>⟨zs,zA,zL,zc,zB,zM,zd,rfl,hv⟩)⟩
  · intro Ls vs w Kk H hu hD hK;obtain⟨zs2,zA2,zL2,zc2,zB2,zM2,zd2,e2,v2⟩:∃zs zA zL zc zB zM zd,vs 2= .agg #[.bool zs,.slice zA zL zc,.slice zB zM zd]∧Z10 w (.agg #[.bool zs,.slice zA zL zc,.slice zB zM zd]) (fq (0)):=fcG H hu hD 4 rfl rfl rfl;obtain⟨zs5,zA5,zL5,zc5,zB5,zM5,zd5,e5,v5⟩:∃zs zA zL zc zB zM zd,vs 5= .agg #[.bool zs,.slice zA zL zc,.slice zB zM zd]∧Z10 w (.agg #[.bool zs,.slice zA zL zc,.slice zB zM zd]) (fq (1)):=fcG H hu hD 7 rfl rfl rfl;go_simp;refine(Z4v _ _ _ _ w v2 v5 k (HF.o.lim (0) (by have:=HI.o;omega) (by have:=HI.o;omega)) (HF.o.lim (1) (by have:=HI.o;omega) (by have:=HI.o;omega)) (by have:=HK.o;omega)).mono ?_;rintro e w' ⟨rfl,hb⟩;exact⟨_,rfl,fcC hK (fun f hf _ h=>plhK w0 b0 fn px py A m c fq ri f hf _ _ _ hb h) (fcP 8 rfl rfl fun _=>rfl)⟩
  · intro Ls vs w Kk H hu hD hK;have f6:vs 6= .int .i64 (Z4n (fq (0)) (fq (1))):=fcG H hu hD 8 rfl rfl rfl;have HRE:=HRI.o;go_simp;exact fcV hK (fcP 9 rfl rfl fun _=>rfl)
  ·
   intro vs w H;have h0:Gq w0 w:=fcE H 0 rfl rfl;have f7:vs 7= .bool ri:=fcE H 9 rfl rfl;clear H;simp only[Nat.zero_add,Nat.reduceAdd];have HFIN:Hid (Gq w0 w):=h0;clear h0;simp only[f7];go_wp2_with fail;go_meet
   case rel=>exact⟨rfl,HFIN.o⟩
 case rest=>
  obtain⟨rfl,HGA⟩:=hcut;obtain⟨wA,hwA⟩:∃x,x=wc:=⟨_,rfl⟩;subst hwA;clear HRI
  go_upto_if 25 with(fail)
  go_cut [6] (fun v6 wx=>∃(O:List Int) (AO:Option Addr) (cO:Nat),v6= .slice AO O.length cO∧Hid (O=hdQ fq n.toNat∧O.length≤60∧wx.ownsRow (b0+1) 61 3 (.slice AO O.length cO) O.length (Z32 fq O)∧Gq w0 wx))
  case first=>
   cases ri with
   |false=>
    go_wp2_with fail;go_meet
    case rel=>exact⟨[],none,0,rfl,by rw[HH1.o];rfl,by decide,World.ownsRow_nil _ _ _ _,HGA.o⟩
   |true=>
    have HOE:Hid (wA.ownsRow (b0+1) 61 3 (.slice none 0 0) ([]:List Int).length (Z32 fq [])):=World.ownsRow_nil _ _ _ _;have HB1:Hid (0≤n - 1):=(by have:=HN.o;show _≤_;omega);go_wp2_with fail;refine(HPT.o (0) wA HGA.o (by have:=HB1.o;omega) (by have:=HB1.o;omega)).mono ?_;rintro e w5 ⟨rfl,hg5⟩;have HG9:Hid (Gq w0 w5):=HGA.o.trans hg5;have HG5:Hid (Gq wA w5):=hg5;have HZ9:Hid (b0+1≤w5.heap.size):=(by have h1:=Below.size HG9.o;have h2:=HZ0.o;show _≤_;omega);clear hg5;have HO5:=Za (Z04 HOE.o HG5.o);go_wp2_with (at_builtin; (refine wpList_append_own _ rfl _ _ 37 rfl (b0+1) 61 ii _ 3 40 Tryz.underlying37 HII.o.1 HII.o.2.1 HII.o.2.2.1 HII.o.2.2.2 rfl (by decide) (.slice none ([]:List Int).length 0) ([]:List Int).length (Z32 fq ([]:List Int)) rfl (HO5.o.alloc _) ⟨w5.heap.size,0,none⟩ 1 1 [.int .i64 (0),.string (Z0n fq (0)).n,.string (Z0n fq (0)).d] (by rfl) (by rfl) (World.news_of_block (cs:= #[.int .i64 (0),.string (Z0n fq (0)).n,.string (Z0n fq (0)).d]) (t:=61) (fr:=(0,0)) (by exact heap_alloc_new w5 _)) (by simp[Value.oneCell']) (by unfold maxLen;simp) (by simp) (by have:=HZ9.o;simp;omega) ?_);intro v9 w9 hown9 hgrow9 _;have hend:=Z3y HG9.o HZ0.o HO5.o hown9 hgrow9;obtain⟨A9,c9,rfl⟩:=Z08 hown9;have HE9:=Za hend;clear hend hown9 hgrow9);go_meet
    case rel=>exact⟨[0],A9,c9,rfl,by rw[HH1.o];rfl,by decide,Z65 HE9.o.2.1,HE9.o.1⟩
  case rest=>
   obtain⟨O0,AO0,cO0,rfl,HB⟩:=hcut;obtain⟨wB,hwB⟩:∃x,x=wc:=⟨_,rfl⟩;subst hwB;have HC7:=Za (HIN.o wB HB.o.2.2.2);have y0:wB.cell? ⟨b0,0,none⟩=some (.func (.func fn) #[] #[px,py]):=(Z0o HKB.o HB.o.2.2.2).cell 0;have y1:wB.cell? ⟨b0,1,none⟩=some (.slice A m c):=(Z0o HKB.o HB.o.2.2.2).cell 1;clear HGA HH1 HIN;go_wp2_with fail;refine HC7.o.mono ?_;rintro e w7 ⟨A7,c7,rfl,hi7,hg7⟩;have HG7:Hid (Gq w0 w7):=HB.o.2.2.2.trans hg7;have HO7:Hid (w7.ownsRow (b0+1) 61 3 (.slice AO0 O0.length cO0) O0.length (Z32 fq O0)):=Z04 HB.o.2.2.1 hg7;have HI7:=Za hi7;have HS0:Hid (Z2g fq ((Z4j L n).drop 0) O0=S∧O0.length≤60+0):=⟨by rw[List.drop_zero,HB.o.1];exact HSG.o,HB.o.2.1⟩;obtain⟨I,hI⟩:∃I,Z4j L n=I:=⟨_,rfl⟩;rw[hI]at HIM HI7 HS0;obtain⟨il,hil⟩:∃k:Nat,I.length=k:=⟨_,rfl⟩;have HIL:=Za hil;rw[hI,hil];have HIX:Hid ((∀x∈I,0≤x∧x≤n - 1)∧I.Pairwise (· < ·)∧il≤500002∧0<il):=(by rw[←hil];exact HIM.o);clear hI hil hi7 hg7 HC7 y0 y1 HB HIM HSG;go_wp2_with fail
   go_loopw [6,8] (fun ov kv wq=>∃(kk:Nat) (O:List Int) (AO:Option Addr) (cO:Nat),kk+1≤il∧kv= .int .i64 (kk:Int)∧ov= .slice AO O.length cO∧Hid (wq.ownsRow (b0+1) 61 3 (.slice AO O.length cO) O.length (Z32 fq O)∧Gq w0 wq∧KpT 3 w7 wq)∧Hid (Z2g fq (I.drop kk) O=S∧O.length≤60+kk)) (fun _ kv _=>il - (intOf kv).toNat)
   case atStart=>exact⟨0,O0,AO0,cO0,HIX.o.2.2.2,rfl,rfl,⟨HO7.o,HG7.o,KpT.refl _ _⟩,HS0.o⟩
   case round=>
    obtain⟨kk,O,AO,cO,hkk,rfl,rfl,HOW,HSO⟩:=hrel;obtain⟨wo,hwo⟩:∃x,x=wr:=⟨_,rfl⟩;subst hwo;have hil5:il≤500002:=HIX.o.2.2.1;by_cases hlt:kk+1<il
    case neg=>
     have hd1:decide ((kk:Int)+1<(il:Int))=false:=(by rw[decide_eq_false_iff_not];omega);have HOS:Hid (O=S):=(by have h:=HSO.o.1;have h2:(I.drop kk).length=1:=(by rw[List.length_drop,HIL.o];omega);obtain⟨a,ha⟩:=List.length_eq_one_iff.1 h2;rw[ha]at h;exact h);have HOL:Hid (O.length≤600000):=(by have:=HSO.o.2;show _≤_;omega);obtain⟨rj,hrj⟩:∃r,(Z4n (fq (n - 1)) (fq (n - 2)) !=0)=r:=⟨_,rfl⟩;have HRI:=Za hrj;have HT1:=Za (HTL.o HNE.o rj hrj);have HFO:Hid (FunV wo fn px py fq 0 (n - 1) k):=HF.o.gq HOW.o.2.1;have HB1:Hid (0≤n - 1):=(by have:=HN.o;show _≤_;omega);clear hrj HTL hlt;go_upto_region 19 with(fail)
     go_cut [102] (fun v102 wx=>v102= .bool rj∧Hid (Gq wo wx))
     case first=>
      have HBASE:Hid (Gq wo wo.drew∧Blk wo.drew b0 77 [.func (.func fn) #[] #[px,py],.slice A m c]):=⟨(Gq.refl _).drew,Z0o HKB.o (HOW.o.2.1.trans (Gq.refl _).drew)⟩;refine Z00 _ (by kernel_rfl) [[],[0],[],[2],[0,1,2,3],[],[5],[],[7],[5,6,7,8],[0,1,2,3,4,5,6,7,8,9],[0,1,2,3,4,5,6,7,8,9,10]] (by kernel_rfl) (by kernel_rfl) [some 91,some 92,some 93,some 94,some 95,some 96,some 97,some 98,some 99,some 100,some 101,some 102] (by kernel_rfl) (fun vs=>by simp only[Go.Dwo.putA,Go.Dwo.putL,if_true,Act.put,Zb,Zc,Zd];rfl) (pltF wo b0 fn px py A m c fq n rj) (by kernel_rfl) ?_ ⟨?_, ?_, ?_, ?_, ?_, ?_, ?_, ?_, ?_, ?_, ?_, ?_,trivial⟩ ?_
      · exact fcZ [0,1] rfl<|fcL (HBASE.o.1)<|fcL (HBASE.o.2)<|fcN _
      · intro Ls vs w Kk H hu hD hK;go_simp;exact fcV hK (fcP 2 rfl rfl fun _=>rfl)
      · intro Ls vs w Kk H hu hD hK;have kb:Blk w b0 77 [.func (.func fn) #[] #[px,py],.slice A m c]:=fcG H hu hD 1 rfl rfl rfl;have f0:vs 0= .pointer (some ⟨b0,0,none⟩):=fcG H hu hD 2 rfl rfl rfl;have y0:w.cell? ⟨b0,0,none⟩=_:=kb.cell 0;simp only[Ze]at y0;go_simp;exact fcV hK (fcP 3 rfl rfl fun _=>rfl)
      · intro Ls vs w Kk H hu hD hK;go_simp;exact fcV hK (fcP 4 rfl rfl fun _=>rfl)
      · intro Ls vs w Kk H hu hD hK;have f2:vs 2= .int .i64 n:=fcG H hu hD 4 rfl rfl rfl;have hwa:=HWR.o.1;have hwb:=HWR.o.2;go_simp;exact fcV hK (fcP 5 rfl rfl fun _=>rfl)
      · intro Ls vs w Kk H hu hD hK;have h0:Gq wo w:=fcG H hu hD 0 rfl rfl rfl;have f1:vs 1= .func (.func fn) #[] #[px,py]:=fcG H hu hD 3 rfl rfl rfl;have f3:vs 3= .int .i64 (n - 1):=fcG H hu hD 5 rfl rfl rfl;have hent:=HFO.o.ent;go_simp;refine(HFO.o.run (n - 1) w h0 (by have:=HI.o;omega) (by have:=HI.o;omega)).mono ?_;rintro e w' ⟨v,rfl,hv,hb⟩;obtain⟨zs,zA,zL,zc,zB,zM,zd,rfl⟩:=Z0m hv;exact⟨_,rfl,fcC hK (fun f hf _ h=>pltK wo b0 fn px py A m c fq n rj f hf _ _ _ hb h) (fcP 6 rfl rfl fun _=>⟨zs,zA,zL,zc,zB,zM,zd,rfl,hv⟩)⟩
      · intro Ls vs w Kk H hu hD hK;go_simp;exact fcV hK (fcP 7 rfl rfl fun _=>rfl)
      · intro Ls vs w Kk H hu hD hK;have kb:Blk w b0 77 [.func (.func fn) #[] #[px,py],.slice A m c]:=fcG H hu hD 1 rfl rfl rfl;have f5:vs 5= .pointer (some ⟨b0,0,none⟩):=fcG H hu hD 7 rfl rfl rfl;have y0:w.cell? ⟨b0,0,none⟩=_:=kb.cell 0;simp only[Ze]at y0;go_simp;exact fcV hK (fcP 8 rfl rfl fun _=>rfl)
      · intro Ls vs w Kk H hu hD hK;go_simp;exact fcV hK (fcP 9 rfl rfl fun _=>rfl)
      · intro Ls vs w Kk H hu hD hK;have f7:vs 7= .int .i64 n:=fcG H hu hD 9 rfl rfl rfl;have hwa:=HWR.o.1;have hwb:=HWR.o.2;go_simp;exact fcV hK (fcP 10 rfl rfl fun _=>rfl)
      · intro Ls vs w Kk H hu hD hK;have h0:Gq wo w:=fcG H hu hD 0 rfl rfl rfl;have f6:vs 6= .func (.func fn) #[] #[px,py]:=fcG H hu hD 8 rfl rfl rfl;have f8:vs 8= .int .i64 (n - 2):=fcG H hu hD 10 rfl rfl rfl;have hent:=HFO.o.ent;go_simp;refine(HFO.o.run (n - 2) w h0 (by have:=HI.o;omega) (by have:=HI.o;omega)).mono ?_;rintro e w' ⟨v,rfl,hv,hb⟩;obtain⟨zs,zA,zL,zc,zB,zM,zd,rfl⟩:=Z0m hv;exact⟨_,rfl,fcC hK (fun f hf _ h=>pltK wo b0 fn px py A m c fq n rj f hf _ _ _ hb h) (fcP 11 rfl rfl fun _=>⟨zs,zA,zL,zc,zB,zM,zd,rfl,hv⟩)⟩
      · intro Ls vs w Kk H hu hD hK;obtain⟨zs4,zA4,zL4,zc4,zB4,zM4,zd4,e4,v4⟩:∃zs zA zL zc zB zM zd,vs 4= .agg #[.bool zs,.slice zA zL zc,.slice zB zM zd]∧Z10 w (.agg #[.bool zs,.slice zA zL zc,.slice zB zM zd]) (fq (n - 1)):=fcG H hu hD 6 rfl rfl rfl;obtain⟨zs9,zA9,zL9,zc9,zB9,zM9,zd9,e9,v9⟩:∃zs zA zL zc zB zM zd,vs 9= .agg #[.bool zs,.slice zA zL zc,.slice zB zM zd]∧Z10 w (.agg #[.bool zs,.slice zA zL zc,.slice zB zM zd]) (fq (n - 2)):=fcG H hu hD 11 rfl rfl rfl;go_simp;refine(Z4v _ _ _ _ w v4 v9 k (HFO.o.lim (n - 1) (by have:=HI.o;omega) (by have:=HI.o;omega)) (HFO.o.lim (n - 2) (by have:=HI.o;omega) (by have:=HI.o;omega)) (by have:=HK.o;omega)).mono ?_;rintro e w' ⟨rfl,hb⟩;exact⟨_,rfl,fcC hK (fun f hf _ h=>pltK wo b0 fn px py A m c fq n rj f hf _ _ _ hb h) (fcP 12 rfl rfl fun _=>rfl)⟩
      · intro Ls vs w Kk H hu hD hK;have f10:vs 10= .int .i64 (Z4n (fq (n - 1)) (fq (n - 2))):=fcG H hu hD 12 rfl rfl rfl;have HRE:=HRI.o;go_simp;exact fcV hK (fcP 13 rfl rfl fun _=>rfl)
      ·
       intro vs w H;have h0:Gq wo w:=fcE H 0 rfl rfl;have f11:vs 11= .bool rj:=fcE H 13 rfl rfl;clear H;simp only[Nat.zero_add,Nat.reduceAdd];have HFIN:Hid (Gq wo w):=h0;clear h0;simp only[f11];go_wp2_with fail;go_meet
       case rel=>exact⟨rfl,HFIN.o⟩
     case rest=>
      obtain⟨rfl,HGC⟩:=hcut;obtain⟨wC,hwC⟩:∃x,x=wc:=⟨_,rfl⟩;subst hwC;have HOC:Hid (wC.ownsRow (b0+1) 61 3 (.slice AO O.length cO) O.length (Z32 fq O)):=Z04 HOW.o.1 HGC.o;have HGD:Hid (Gq w0 wC):=HOW.o.2.1.trans HGC.o;clear HRI HOW HGC
      go_upto_if 102 with(fail)
      go_cut [6] (fun v6 wx=>∃(P:List Int) (AP:Option Addr) (cP:Nat),v6= .slice AP P.length cP∧Hid (orZero P=FN∧P.length≤600001∧wx.ownsRow (b0+1) 61 3 (.slice AP P.length cP) P.length (Z32 fq P)∧Gq w0 wx))
      case first=>
       cases rj with
       |false=>
        go_wp2_with fail;go_meet
        case rel=>exact⟨O,AO,cO,rfl,by rw[←HN2.o HNE.o,HT1.o,HOS.o];simp,by have:=HOL.o;omega,HOC.o,HGD.o⟩
       |true=>
        have hw1:IntKind.i64.wrap (n - 1)=n - 1:=HWR.o.1;go_wp2_with fail;refine(HPT.o (n - 1) wC HGD.o (by have:=HB1.o;omega) (by have:=HB1.o;omega)).mono ?_;rintro e w5 ⟨rfl,hg5⟩;have HG9:Hid (Gq w0 w5):=HGD.o.trans hg5;have HG5:Hid (Gq wC w5):=hg5;have HZ9:Hid (b0+1≤w5.heap.size):=(by have h1:=Below.size HG9.o;have h2:=HZ0.o;show _≤_;omega);clear hg5;have HO5:=Za (Z04 HOC.o HG5.o);have hol:O.length≤600000:=HOL.o;go_wp2_with (at_builtin; (refine wpList_append_own _ rfl _ _ 37 rfl (b0+1) 61 ii _ 3 40 Tryz.underlying37 HII.o.1 HII.o.2.1 HII.o.2.2.1 HII.o.2.2.2 rfl (by decide) (.slice AO O.length cO) O.length (Z32 fq O) rfl (HO5.o.alloc _) ⟨w5.heap.size,0,none⟩ 1 1 [.int .i64 (n - 1),.string (Z0n fq (n - 1)).n,.string (Z0n fq (n - 1)).d] (by rfl) (by rfl) (World.news_of_block (cs:= #[.int .i64 (n - 1),.string (Z0n fq (n - 1)).n,.string (Z0n fq (n - 1)).d]) (t:=61) (fr:=(0,0)) (by exact heap_alloc_new w5 _)) (by simp[Value.oneCell']) (by unfold maxLen;omega) (by omega) (by have:=HZ9.o;simp;omega) ?_);intro v9 w9 hown9 hgrow9 _;have hend:=Z3y HG9.o HZ0.o HO5.o hown9 hgrow9;obtain⟨A9,c9,rfl⟩:=Z08 hown9;have HE9:=Za hend;clear hend hown9 hgrow9);go_meet
        case rel=>exact⟨O++ [n - 1],A9,c9,by rw[Zj];rfl,by rw[←HN2.o HNE.o,HT1.o,HOS.o];simp,by simp;omega,Z65 HE9.o.2.1,HE9.o.1⟩
      case rest=>
       obtain⟨P,AP,cP,rfl,HP⟩:=hcut;obtain⟨wE,hwE⟩:∃x,x=wc:=⟨_,rfl⟩;subst hwE;by_cases hp:P= []
       · have hz:((P.length:Int)==0)=true:=(by rw[hp];rfl);have HPZ:Hid ([(0:Int)]=FN):=(by have h:=HP.o.1;rw[hp]at h;exact h);have HOP:Hid (wE.ownsRow (b0+1) 61 3 (.slice AP P.length cP) P.length (Z32 fq P)):=HP.o.2.2.1;have HPE:=Za hp;have hpl:P.length≤600001:=HP.o.2.1;clear hp;go_wp2_with fail;refine(HPT.o (0) wE HP.o.2.2.2 (by have:=HB1.o;omega) (by have:=HB1.o;omega)).mono ?_;rintro e w5 ⟨rfl,hg5⟩;have HG9:Hid (Gq w0 w5):=HP.o.2.2.2.trans hg5;have HG5:Hid (Gq wE w5):=hg5;have HZ9:Hid (b0+1≤w5.heap.size):=(by have h1:=Below.size HG9.o;have h2:=HZ0.o;show _≤_;omega);clear hg5;have HO5:=Za (Z04 HOP.o HG5.o);go_wp2_with (at_builtin; (refine wpList_append_own _ rfl _ _ 37 rfl (b0+1) 61 ii _ 3 40 Tryz.underlying37 HII.o.1 HII.o.2.1 HII.o.2.2.1 HII.o.2.2.2 rfl (by decide) (.slice AP P.length cP) P.length (Z32 fq P) rfl (HO5.o.alloc _) ⟨w5.heap.size,0,none⟩ 1 1 [.int .i64 (0),.string (Z0n fq (0)).n,.string (Z0n fq (0)).d] (by rfl) (by rfl) (World.news_of_block (cs:= #[.int .i64 (0),.string (Z0n fq (0)).n,.string (Z0n fq (0)).d]) (t:=61) (fr:=(0,0)) (by exact heap_alloc_new w5 _)) (by simp[Value.oneCell']) (by unfold maxLen;omega) (by omega) (by have:=HZ9.o;simp;omega) ?_);intro v9 w9 hown9 hgrow9 _;have hend:=Z3y HG9.o HZ0.o HO5.o hown9 hgrow9;obtain⟨A9,c9,rfl⟩:=Z08 hown9;have HE9:=Za hend;clear hend hown9 hgrow9);have hfin:=HEND.o (P++ [0]) A9 c9 _ (by rw[HPE.o];exact HPZ.o) (Z65 HE9.o.2.1) HE9.o.1;rw[Zj]at hfin;exact hfin
       · have hz:((P.length:Int)==0)=false:=(by have:=List.length_pos_iff.2 hp;rw[beq_eq_false_iff_ne];omega);have HFP:Hid (P=FN):=(by have h:=HP.o.1;unfold orZero at h;rw[if_neg hp]at h;exact h);clear hp;go_wp2_with fail;exact HEND.o P AP cP _ HFP.o HP.o.2.2.1 HP.o.2.2.2
    have hd1:decide ((kk:Int)+1<(il:Int))=true:=(by rw[decide_eq_true_iff];omega);have hk0:kk<I.length:=(by rw[HIL.o];omega);have hk1:kk+1<I.length:=(by rw[HIL.o];omega);obtain⟨b,off,hA,hbb,hcs⟩:=Rd.at_ ((HI7.o.kp HOW.o.2.2).rd) (by show 0<(ic I).length;simp[ic];omega);obtain rfl:A7=some ⟨b,off,none⟩:=hA;obtain⟨a,ha⟩:∃z,I[kk]=z:=⟨_,rfl⟩;obtain⟨z,hz⟩:∃z,I[kk+1]=z:=⟨_,rfl⟩;have d0:wo.cell? ⟨b,off+kk,none⟩=some (.int .i64 a):=hcs kk _ (by unfold ic;rw[List.getElem?_map,Zi hk0,ha];rfl);have d1:wo.cell? ⟨b,off+(kk+1),none⟩=some (.int .i64 z):=hcs (kk+1) _ (by unfold ic;rw[List.getElem?_map,Zi hk1,hz];rfl);have HAZ:Hid (0≤a∧a<z∧z≤n - 1∧n≤100000):=(by have h1:=HIX.o.1 a (by rw[←ha];exact Zn hk0);have h2:=HIX.o.1 z (by rw[←hz];exact Zn hk1);have h3:=List.pairwise_iff_getElem.1 HIX.o.2.1 kk (kk+1) hk0 hk1 (by omega);rw[ha,hz]at h3;exact⟨h1.1,h3,h2.2,HN.o.2⟩);obtain⟨T,hT⟩:∃T,Zeq fq O a z=T:=⟨_,rfl⟩
    have HST:Hid (Z2g fq (I.drop (kk+1)) T=S∧T.length≤60+(kk+1)):=by
     have h:=HSO.o.1;rw[List.drop_eq_getElem_cons hk0,List.drop_eq_getElem_cons hk1,ha,hz]at h;refine⟨?_, ?_⟩
     · rw[List.drop_eq_getElem_cons hk1,hz,←hT];exact h
     · have h2:=Zb5 fq O a z;have h3:=HSO.o.2;rw[←hT];omega
    have HTB:Hid (Zeq fq O a z=T):=hT;have HOL:Hid (O.length≤60+kk∧kk+1≤500002):=⟨HSO.o.2,by omega⟩;have i0:(0:Int)≤(kk:Int):=(by omega);have i1:(kk:Int)<(il:Int):=(by omega);have i2:(0:Int)≤(kk:Int)+1:=(by omega);have i3:(kk:Int)+1<(il:Int):=(by omega);have i4:((kk:Int)+1).toNat=kk+1:=(by omega);have i5:IntKind.i64.wrap ((kk:Int)+1)=(kk:Int)+1:=IntWalk.i64_in _ (by omega);clear hcs ha hz hT hk0 hk1;go_upto_region 11 with(fail)
    go_cut [9,10] (fun va vb wx=>va= .int .i64 a∧vb= .int .i64 z∧Hid (Gq wo wx))
    case first=>
     go_region
     all_goals
      go_wp2_with fail;go_meet
      case rel=>exact⟨rfl,rfl,(Gq.refl _).drew⟩
    case rest=>
     obtain⟨rfl,rfl,HGD⟩:=hcut;obtain⟨wD,hwD⟩:∃x,x=wc:=⟨_,rfl⟩;subst hwD;clear d0 d1 i2 i3 i4 i5;obtain⟨ba,hba⟩:∃r,Z3p fq a=r:=⟨_,rfl⟩;have HBA:=Za hba;have HDW:Hid (Gq w0 wD):=HOW.o.2.1.trans HGD.o;have y0:wD.cell? ⟨b0,0,none⟩=some (.func (.func fn) #[] #[px,py]):=(Z0o HKB.o HDW.o).cell 0;have y1:wD.cell? ⟨b0,1,none⟩=some (.slice A m c):=(Z0o HKB.o HDW.o).cell 1;clear hba;go_upto_region 12 with(fail)
     go_cut [56] (fun v56 wx=>∃y:Bool,v56= .bool y∧Hid (y=(decide (0<a) && ba)∧Gq wD wx))
     case first=>
      by_cases h0:0<a
      ·
       have hd2:decide (0<a)=true:=(by simpa using h0);have HCB:=Za (HBN.o a wD HDW.o (by omega) (by have:=HAZ.o;omega));rw[HBA.o]at HCB;have HD2:=Za hd2;clear h0;go_wp2_with fail;refine HCB.o.mono ?_;rintro e w5 ⟨rfl,hg5⟩;have HG5:Hid (Gq wD w5):=hg5;clear hg5 HCB;go_wp2_with fail;go_meet
       case rel=>exact⟨_,rfl,by rw[HD2.o];rfl,HG5.o⟩
      ·
       have hd2:decide (0<a)=false:=(by simpa using h0);have HD2:=Za hd2;clear h0;go_wp2_with fail;go_meet
       case rel=>exact⟨_,rfl,by rw[HD2.o];rfl,Gq.refl _⟩
     case rest=>
      obtain⟨y,rfl,HY⟩:=hcut;obtain⟨wE,hwE⟩:∃x,x=wc:=⟨_,rfl⟩;subst hwE;have HEW:Hid (Gq w0 wE):=HDW.o.trans HY.o.2;have HOE:Hid (wE.ownsRow (b0+1) 61 3 (.slice AO O.length cO) O.length (Z32 fq O)):=Z04 (Z04 HOW.o.1 HGD.o) HY.o.2;have HKE:Hid (KpT 3 w7 wE):=HOW.o.2.2.trans (.of_below (HGD.o.trans HY.o.2))
      have HSA:Hid (Zcl fq O a=if y=true then O++ [a]else O):=by
       show _=_;unfold Zcl;rw[HY.o.1,HBA.o];by_cases h0:0<a
       · cases ba<;>simp[h0]
       · cases ba<;>simp[h0]
      clear HY HGD HOW y0 y1
      go_upto_if 56 with(fail)
      go_cut [6] (fun v6 wx=>∃(P:List Int) (AP:Option Addr) (cP:Nat),v6= .slice AP P.length cP∧Hid (P=Zcl fq O a∧P.length≤61+kk∧wx.ownsRow (b0+1) 61 3 (.slice AP P.length cP) P.length (Z32 fq P)∧Gq w0 wx∧KpT 3 w7 wx))
      case first=>
       cases y with
       |false=>
        go_wp2_with fail;go_meet
        case rel=>exact⟨O,AO,cO,rfl,by rw[HSA.o];rfl,by have:=HOL.o.1;omega,HOE.o,HEW.o,HKE.o⟩
       |true=>
        have hol:O.length≤600000:=(by have:=HOL.o;omega);go_wp2_with fail;refine(HPT.o (a) wE HEW.o (by have:=HAZ.o;omega) (by have:=HAZ.o;omega)).mono ?_;rintro e w5 ⟨rfl,hg5⟩;have HG9:Hid (Gq w0 w5):=HEW.o.trans hg5;have HG5:Hid (Gq wE w5):=hg5;have HZ9:Hid (b0+1≤w5.heap.size):=(by have h1:=Below.size HG9.o;have h2:=HZ0.o;show _≤_;omega);clear hg5;have HO5:=Za (Z04 HOE.o HG5.o);have HK5:Hid (KpT 3 w7 w5):=HKE.o.trans (.of_below HG5.o);go_wp2_with (at_builtin; (refine wpList_append_own _ rfl _ _ 37 rfl (b0+1) 61 ii _ 3 40 Tryz.underlying37 HII.o.1 HII.o.2.1 HII.o.2.2.1 HII.o.2.2.2 rfl (by decide) (.slice AO O.length cO) O.length (Z32 fq O) rfl (HO5.o.alloc _) ⟨w5.heap.size,0,none⟩ 1 1 [.int .i64 (a),.string (Z0n fq (a)).n,.string (Z0n fq (a)).d] (by rfl) (by rfl) (World.news_of_block (cs:= #[.int .i64 (a),.string (Z0n fq (a)).n,.string (Z0n fq (a)).d]) (t:=61) (fr:=(0,0)) (by exact heap_alloc_new w5 _)) (by simp[Value.oneCell']) (by unfold maxLen;omega) (by omega) (by have:=HZ9.o;simp;omega) ?_);intro v9 w9 hown9 hgrow9 _;have hend:=Z3y HG9.o HZ0.o HO5.o hown9 hgrow9;obtain⟨A9,c9,rfl⟩:=Z08 hown9;have HE9:=Za hend;clear hend hown9 hgrow9);go_meet
        case rel=>exact⟨O++ [a],A9,c9,by rw[Zj];rfl,by rw[HSA.o];rfl,by have:=HOL.o.1;simp;omega,Z65 HE9.o.2.1,HE9.o.1,HK5.o.trans HE9.o.2.2⟩
      case rest=>
       obtain⟨P,AP,cP,rfl,HP⟩:=hcut;obtain⟨wF,hwF⟩:∃x,x=wc:=⟨_,rfl⟩;subst hwF;obtain⟨bb,hbb2⟩:∃r,Z3p fq (a+1)=r:=⟨_,rfl⟩;have HBB:=Za hbb2;have y0:wF.cell? ⟨b0,0,none⟩=some (.func (.func fn) #[] #[px,py]):=(Z0o HKB.o HP.o.2.2.2.1).cell 0;have y1:wF.cell? ⟨b0,1,none⟩=some (.slice A m c):=(Z0o HKB.o HP.o.2.2.2.1).cell 1;have j0:IntKind.i64.wrap (z - a)=z - a:=IntWalk.i64_in _ (by have:=HAZ.o;omega);have j1:IntKind.i64.wrap (a+1)=a+1:=IntWalk.i64_in _ (by have:=HAZ.o;omega);clear hbb2 HEW HOE HKE HSA;go_upto_region 14 with(fail)
       go_cut [72] (fun v72 wx=>∃y:Bool,v72= .bool y∧Hid (y=(decide (2≤z - a) && bb)∧Gq wF wx))
       case first=>
        by_cases h0:2≤z - a
        ·
         have hd2:decide (2≤z - a)=true:=(by simpa using h0);have HCB:=Za (HBN.o (a+1) wF HP.o.2.2.2.1 (by have:=HAZ.o;omega) (by have:=HAZ.o;omega));rw[HBB.o]at HCB;have HD2:=Za hd2;clear h0;go_wp2_with fail;refine HCB.o.mono ?_;rintro e w5 ⟨rfl,hg5⟩;have HG5:Hid (Gq wF w5):=hg5;clear hg5 HCB;go_wp2_with fail;go_meet
         case rel=>exact⟨_,rfl,by rw[HD2.o];rfl,HG5.o⟩
        ·
         have hd2:decide (2≤z - a)=false:=(by simpa using h0);have HD2:=Za hd2;clear h0;go_wp2_with fail;go_meet
         case rel=>exact⟨_,rfl,by rw[HD2.o];rfl,Gq.refl _⟩
       case rest=>
        obtain⟨y2,rfl,HY⟩:=hcut;obtain⟨wG,hwG⟩:∃x,x=wc:=⟨_,rfl⟩;subst hwG;have HGW:Hid (Gq w0 wG):=HP.o.2.2.2.1.trans HY.o.2;have HOG:Hid (wG.ownsRow (b0+1) 61 3 (.slice AP P.length cP) P.length (Z32 fq P)):=Z04 HP.o.2.2.1 HY.o.2;have HKG:Hid (KpT 3 w7 wG):=HP.o.2.2.2.2.trans (.of_below HY.o.2)
        have HTY:Hid (T=if y2=true then Z3f P (a+1) (z - a - 1).toNat else P):=by
         show _=_;rw[←HTB.o,HY.o.1,HBB.o.symm];unfold Zeq;rw[←HP.o.1];by_cases h0:2≤z - a
         ·
          by_cases h1:Z3p fq (a+1)=true
          · rw[if_pos ⟨h0,h1⟩,if_pos (by simp[h0,h1])]
          · rw[if_neg (fun g=>h1 g.2),if_neg (by simp[h1])]
         · rw[if_neg (fun g=>h0 g.1),if_neg (by simp[h0])]
        have HPL:Hid (P.length≤61+kk):=HP.o.2.1;clear HP HY y0 y1;have hkl:kk+1<il:=hlt;cases y2 with
        |false=>
         have HS2:Hid (Z2g fq (I.drop (kk+1)) P=S∧P.length≤60+(kk+1)):=(by have e:P=T:=(by rw[HTY.o];rfl);rw[e];exact HST.o);go_wp2_with fail;go_roundw
         case rel=>exact⟨kk+1,P,AP,cP,by omega,by go_num,rfl,⟨HOG.o,HGW.o,HKG.o⟩,HS2.o⟩
         case measure=>simp[intOf];omega
        |true=>
         have HT0:Hid (Z3f P (a+1) (z - (a+1)).toNat=T):=(by rw[HTY.o,show z - (a+1)=z - a - 1 by omega];rfl);go_wp2_with fail
         go_loopw [6,11] (fun ov iv wq=>∃(i:Int) (X:List Int) (AX:Option Addr) (cX:Nat),a+1≤i∧i≤z∧iv= .int .i64 i∧ov= .slice AX X.length cX∧Hid (wq.ownsRow (b0+1) 61 3 (.slice AX X.length cX) X.length (Z32 fq X)∧Gq w0 wq∧KpT 3 w7 wq)∧Hid (Z3f X i (z - i).toNat=T)) (fun _ iv _=>(z - intOf iv).toNat)
         case atStart=>exact⟨a+1,P,AP,cP,Int.le_refl _,by have:=HAZ.o;omega,rfl,rfl,⟨HOG.o,HGW.o,HKG.o⟩,HT0.o⟩
         case round=>
          obtain⟨i,X,AX,cX,hi1,hi2,rfl,rfl,HX,HFX⟩:=hrel;by_cases hiz:i<z
          case neg=>
           have hd3:decide (i<z)=false:=(by simpa using hiz);have HS2:Hid (Z2g fq (I.drop (kk+1)) X=S∧X.length≤60+(kk+1)):=(by have e:X=T:=(by have h:=HFX.o;rw[show(z - i).toNat=0 by omega]at h;exact h);rw[e];exact HST.o);clear hiz;go_wp2_with fail;go_roundw
           case rel=>exact⟨kk+1,X,AX,cX,by omega,by go_num,rfl,HX.o,HS2.o⟩
           case measure=>simp[intOf];omega
          have hd3:decide (i<z)=true:=(by simpa using hiz);by_cases h50:X.length≤50
          case neg=>
           have hd4:decide ((X.length:Int)≤50)=false:=(by rw[decide_eq_false_iff_not];omega);have HS2:Hid (Z2g fq (I.drop (kk+1)) X=S∧X.length≤60+(kk+1)):=(by have e:X=T:=(by have h:=HFX.o;rw[show(z - i).toNat=(z - i - 1).toNat+1 by omega,Z3f,if_neg h50]at h;exact h);rw[e];exact HST.o);clear h50 hiz;go_wp2_with fail;go_roundw
           case rel=>exact⟨kk+1,X,AX,cX,by omega,by go_num,rfl,HX.o,HS2.o⟩
           case measure=>simp[intOf];omega
          have hd4:decide ((X.length:Int)≤50)=true:=(by rw[decide_eq_true_iff];omega);have HNX:Hid (Z3f (X++ [i]) (i+1) (z - (i+1)).toNat=T):=(by have h:=HFX.o;rw[show(z - i).toNat=(z - (i+1)).toNat+1 by omega,Z3f,if_pos h50]at h;exact h);have HII2:Hid (a+1≤i∧i<z):=⟨hi1,hiz⟩;have hzz:=HAZ.o;clear HFX;go_wp2_with fail;refine(HPT.o (i) wr HX.o.2.1 (by have:=HII2.o;have:=HAZ.o;omega) (by have:=HII2.o;have:=HAZ.o;omega)).mono ?_;rintro e w5 ⟨rfl,hg5⟩;have HG9:Hid (Gq w0 w5):=HX.o.2.1.trans hg5;have HG5:Hid (Gq wr w5):=hg5;have HZ9:Hid (b0+1≤w5.heap.size):=(by have h1:=Below.size HG9.o;have h2:=HZ0.o;show _≤_;omega);clear hg5;have HO5:=Za (Z04 HX.o.1 HG5.o);have HK5:Hid (KpT 3 w7 w5):=HX.o.2.2.trans (.of_below HG5.o);go_wp2_with (at_builtin; (refine wpList_append_own _ rfl _ _ 37 rfl (b0+1) 61 ii _ 3 40 Tryz.underlying37 HII.o.1 HII.o.2.1 HII.o.2.2.1 HII.o.2.2.2 rfl (by decide) (.slice AX X.length cX) X.length (Z32 fq X) rfl (HO5.o.alloc _) ⟨w5.heap.size,0,none⟩ 1 1 [.int .i64 (i),.string (Z0n fq (i)).n,.string (Z0n fq (i)).d] (by rfl) (by rfl) (World.news_of_block (cs:= #[.int .i64 (i),.string (Z0n fq (i)).n,.string (Z0n fq (i)).d]) (t:=61) (fr:=(0,0)) (by exact heap_alloc_new w5 _)) (by simp[Value.oneCell']) (by unfold maxLen;omega) (by omega) (by have:=HZ9.o;simp;omega) ?_);intro v9 w9 hown9 hgrow9 _;have hend:=Z3y HG9.o HZ0.o HO5.o hown9 hgrow9;obtain⟨A9,c9,rfl⟩:=Z08 hown9;have HE9:=Za hend;clear hend hown9 hgrow9);go_roundw
          case rel=>exact⟨i+1,X++ [i],A9,c9,by omega,by omega,by go_num,by rw[Zj];rfl,⟨Z65 HE9.o.2.1,HE9.o.1,HK5.o.trans HE9.o.2.2⟩,HNX.o⟩
          case measure=>simp[intOf];omega
end Go.Proofs.YtcemlhbfemenpaaGreatDoor
namespace Go.Dw
def Rng (n:Int)(l:List Int):Prop:=∀x∈l,0≤x∧x≤n - 1
theorem Rng.snoc {n i:Int}{l:List Int}(h:Rng n l)(hi:0≤i∧i≤n - 1):Rng n (l++ [i]):=fun x hx=>by
 rcases List.mem_append.1 hx with hx|hx
 · exact h x hx
 · rw[List.mem_singleton.1 hx];exact hi
theorem Z8p {n:Int}:∀(m:Nat) (out:List Int) (i:Int),Rng n out→0≤i→i+m≤n→Rng n (Z3f out i m)
 |0,_,_,h,_,_=>h
 |m+1,out,i,h,h0,h1=>by
  rw[Z3f]
  split
  · exact Z8p m _ _ (h.snoc ⟨h0,by omega⟩) (by omega) (by omega)
  · exact h
theorem segB_rng {f:Int→Rat}{n a b:Int}{out:List Int}(h:Rng n out)(ha:0≤a∧a≤n - 1)(hb:b≤n - 1):Rng n (Zeq f out a b):=by
 have hA:Rng n (Zcl f out a):=by
  unfold Zcl
  split
  · exact h.snoc ha
  · exact h
 unfold Zeq
 split
 · exact Z8p _ _ _ hA (by omega) (by omega)
 · exact hA
theorem Z8q {f:Int→Rat}{n:Int}:∀(l out:List Int),Rng n l→Rng n out→Rng n (Z2g f l out)
 | [],_,_,h=>by simpa [Z2g]using h
 | [_],_,_,h=>by simpa [Z2g]using h
 |a::b::l,out,hl,h=>by rw[Z2g];exact Z8q (b::l) _ (fun x hx=>hl x (List.mem_cons_of_mem _ hx)) (segB_rng h (hl a (by simp)) (hl b (by simp)).2)
theorem plnB_rng {f:Int→Rat}{bs:List Int}{n:Nat}(hn:0<n):Rng n (plnB f bs n):=by
 have h0:Rng n [0]:=fun x hx=>by rw[List.mem_singleton.1 hx];omega
 unfold plnB
 split
 · exact h0
 ·
  rename_i h1
  have hI:Rng n (Z4j bs n):=fun x hx=>Z4l (by omega) hx
  have hH:Rng n (hdQ f n):=by
   unfold hdQ
   split
   · exact h0
   · exact fun x hx=>by simp at hx
  have hS:=Z8q (f:=f) _ _ hI hH
  have hT:Rng n (tlQ f n):=by
   unfold tlQ
   split
   · exact fun x hx=>by rw[List.mem_singleton.1 hx];omega
   · exact fun x hx=>by simp at hx
  unfold orZero
  split
  · exact h0
  · exact fun x hx=>(List.mem_append.1 hx).elim (hS x) (hT x)
end Go.Dw
namespace Go.Proofs.YtcemlhbfemenpaaGreatDoor
open Go.RowKit Go.Dw
attribute [local go_sem ↓] Go.wp_at_zero Go.wp_at_succ
theorem Zf4 {fq:Int→Rat}{i:Int}{k:Nat}(h:Z0i k (fq i))(hk:k≤1000000)(hi:Z0l i):Zbu (Z0n fq i):=by
 have h1:=Z3x h.1;have h2:=Z3x h.2;refine⟨hi, ?_, ?_⟩
 ·
  show(Z7r (fq i)).toArray.size≤_;rw[List.size_toArray];unfold Z7r;rw[Zj]
  split<;>simp<;>omega
 · show(Zbl (fq i)).toArray.size≤_;rw[List.size_toArray];unfold Zbl;omega
theorem plnC_ok {fq:Int→Rat}{bs:List Int}{n k:Nat}(hn:0<n)(hn2:n≤1000000)(hk:k≤1000000)(h:∀i,0≤i→i≤(n:Int) - 1→Z0i k (fq i)):∀p∈Zer fq bs n,Zbu p:=fun p hp=>by
 obtain⟨i,hi,rfl⟩:=List.mem_map.1 hp;obtain⟨h1,h2⟩:=plnB_rng hn i hi;exact Zf4 (h i h1 h2) hk (by unfold Z0l;omega)
theorem part_any (x:CliM)(a b:Int)(w:World)(hx:CliOk w x)(hv:Z3r x.ln x.e.xs=0)(hln:x.ln≤100000)(hfr:(0≤x.fr∧x.fr≤10000000000000)∧0≤x.at_∧x.at_≤100000)(ha:0≤a∧a<b∧b≤x.ln):
  Calls Tryz.prog 34 #[x.v,.int .i64 a,.int .i64 b] w fun e w'=>∃y:CliM,e= .returned y.v∧y.x=Z9n x.x a b∧Z1z w' y∧Gq w w':=by
 obtain⟨he1,he2,_⟩:=Z1k hv;obtain⟨b0,hb0⟩:∃b,w.heap.size=b:=⟨_,rfl⟩;obtain⟨wa,hwa⟩:∃wa,wa=w.alloc (.cells #[.string x.m,.int .i64 x.ch,.int .i64 x.fr,.int .i64 x.tr,.int .i64 x.at_,.int .i64 x.ln,.slice x.e.a x.e.xs.length x.e.c] 39):=⟨_,rfl⟩;obtain⟨wz,hwz⟩:∃wz,wz=wa.alloc (.cells #[.string ⟨#[]⟩,.int .i64 0,.int .i64 0,.int .i64 0,.int .i64 0,.int .i64 0,.slice none 0 0] 39):=⟨_,rfl⟩;have hga:Gq w wa:=by rw[hwa];exact(Gq.refl _).alloc _
 have hgb:Gq wa wz:=by rw[hwz];exact(Gq.refl _).alloc _
 have hza:wa.heap.size=b0+1:=by rw[hwa];simp;omega
 have HG:Hid (Gq w wz):=hga.trans hgb;have HKC:Hid (Blk wz b0 39 [.string x.m,.int .i64 x.ch,.int .i64 x.fr,.int .i64 x.tr,.int .i64 x.at_,.int .i64 x.ln,.slice x.e.a x.e.xs.length x.e.c]):=by refine Z0o (?_:Blk wa b0 _ _) hgb;rw[hwa,←hb0];exact Blk.new w _ _
 have HKR:Hid (Blk wz (b0+1) 39 [.string ⟨#[]⟩,.int .i64 0,.int .i64 0,.int .i64 0,.int .i64 0,.int .i64 0,.slice none 0 0]):=by rw[hwz,←hza];exact Blk.new wa _ _
 have HCV:Hid (Calls Tryz.prog 47 #[x.v,.int .i64 a] wz (CrvR x a wz)):=Z9q x a wz (hx.below HG.o) hv hln (by omega);obtain⟨fq,hfq⟩:∃f,(fun i=>Z38 x.e.xs (i+a))=f:=⟨_,rfl⟩;obtain⟨L,hL⟩:∃L,x.e.xs.map (fun p=>p.at_ - a)=L:=⟨_,rfl⟩;obtain⟨n,hn⟩:∃n,b - a=n:=⟨_,rfl⟩;obtain⟨PS,hPS⟩:∃PS,Zer fq L n.toNat=PS:=⟨_,rfl⟩;have HLL:Hid (L.length=x.e.xs.length∧L.length≤50):=by rw[←hL,List.length_map];exact⟨rfl,he2⟩
 have HPC:Hid (∀(g1 g2:Nat) (A:Option Addr) (m c:Nat) (W:World),m=x.e.xs.length→Rd W A (ic L)→FunV W 73 (.pointer (some ⟨g1,0,none⟩)) (.pointer (some ⟨g2,0,none⟩)) fq (-a) (x.ln - 1 - a) 300→Calls Tryz.prog 49 #[.agg #[.func (.func 73) #[] #[.pointer (some ⟨g1,0,none⟩),.pointer (some ⟨g2,0,none⟩)],.slice A m c],.int .i64 n] W (PlnR PS W)):=fun g1 g2 A m c W hm hr hf=>by rw[←hPS];exact Zf3 _ _ _ A m c fq L 300 n W (hf.sub (by omega) (by omega)) hr (by rw[hm,HLL.o.1]) (by have:=HLL.o.2;omega) (by omega) (by decide)
 have HPK:Hid (∀(A:Option Addr) (c:Nat) (W:World),Gq w W→RdT 61 W A (PS.flatMap Pnt.cs)→Z1z W ⟨x.m,x.ch,x.fr+a,x.tr,x.at_+a,n,⟨A,c,PS⟩⟩):=fun A c W hW hr=>by
  refine⟨⟨hx.m,hx.ch,by unfold Z0l;show _≤x.fr+a∧x.fr+a≤_;omega,hx.tr,by unfold Z0l;show _≤x.at_+a∧x.at_+a≤_;omega,by unfold Z0l;show _≤n∧n≤_;omega, ?_,hr.rd, ?_⟩,hr⟩
  · show PS.length≤_;rw[←hPS];have:=plnC_len fq L n.toNat;have:=HLL.o.2;omega
  · show∀p∈PS,Zbu p;rw[←hPS];refine plnC_ok (k:=300) (by omega) (by omega) (by decide) fun i h1 h2=> ?_;rw[←hfq];exact Z8o hv hln (by omega)
 have HPX:Hid (∀(A:Option Addr) (c:Nat),(⟨x.m,x.ch,x.fr+a,x.tr,x.at_+a,n,⟨A,c,PS⟩⟩:CliM).x=Z9n x.x a b):=fun A c=>by show(⟨x.m,x.ch,x.fr+a,x.tr,x.at_+a,n,PS⟩:Cli)=⟨x.m,x.ch,x.fr+a,x.tr,x.at_+a,b - a,Zer (fun i=>Z38 x.e.xs (i+a)) (x.e.xs.map fun p=>p.at_ - a) (b - a).toNat⟩;rw[hn,hfq,hL,hPS]
 obtain⟨s1,hs1⟩:∃s,x.fr+a=s:=⟨_,rfl⟩;obtain⟨s2,hs2⟩:∃s,x.at_+a=s:=⟨_,rfl⟩;have hw1:IntKind.i64.wrap (x.fr+a)=s1:=by rw[←hs1];exact IntWalk.i64_in _ (by omega)
 have hw2:IntKind.i64.wrap (x.at_+a)=s2:=by rw[←hs2];exact IntWalk.i64_in _ (by omega)
 have hw3:IntKind.i64.wrap (b - a)=n:=by rw[←hn];exact IntWalk.i64_in _ (by omega)
 rw[hs1,hs2]at HPK HPX;unfold CrvR at HCV;rw[hfq,hL]at HCV;obtain⟨Y,hY⟩:∃Y,Z9n x.x a b=Y:=⟨_,rfl⟩;rw[hY]at HPX⊢;rw[hwa]at hwz;have HWZ:=Za hwz;have HB0:=Za hb0;have HZA:Hid (w.heap.size=b0):=hb0;clear hwa hwz hga hgb hza hx hv hln hfr ha he1 he2 hfq hL hn hPS hs1 hs2 hY HLL;obtain⟨xm,xc,xf,xt,xa,xl,⟨EA,ed,es⟩⟩:=x;simp only[CliM.v,Slc.v]at HCV⊢;simp only at HKC HPC HPK HPX HWZ hw1 hw2 HCV;obtain⟨en,hen⟩:∃en:Nat,es.length=en:=⟨_,rfl⟩;rw[hen]at HKC HPC HWZ HCV⊢;clear hen;have c0:wz.cell? ⟨b0,0,none⟩=some _:=HKC.o.cell 0;have c1:wz.cell? ⟨b0,1,none⟩=some _:=HKC.o.cell 1;have c2:wz.cell? ⟨b0,2,none⟩=some _:=HKC.o.cell 2;have c3:wz.cell? ⟨b0,3,none⟩=some _:=HKC.o.cell 3;have c4:wz.cell? ⟨b0,4,none⟩=some _:=HKC.o.cell 4;have c5:wz.cell? ⟨b0,5,none⟩=some _:=HKC.o.cell 5;have c6:wz.cell? ⟨b0,6,none⟩=some _:=HKC.o.cell 6;go_enter Tryz.func34,Tryz.ntmps34;go_upto_region 1 with(fail);rw[←HWZ.o];try simp only[hb0]
 clear hb0;go_wp2_with fail;refine HCV.o.mono ?_;rintro e w2 ⟨hg2,g1,g2,A,m,c,rfl,hm,hr,hf⟩;have HC2:=Za (HPC.o g1 g2 A m c w2 hm hr hf);have HG2:Hid (Gq wz w2):=hg2;clear hg2 hm hr hf HCV HPC c0 c1 c2 c3 c4 c5 c6;go_wp2_with fail;refine HC2.o.mono ?_;rintro e w3 ⟨hg3,A3,c3,rfl,ho3⟩;have HG3:Hid (Gq wz w3):=HG2.o.trans hg3;have HRT:Hid (RdT 61 w3 A3 (PS.flatMap Pnt.cs)):=RdT.of_own ho3;obtain⟨pn,hpn⟩:∃k:Nat,PS.length=k:=⟨_,rfl⟩;have HPN:=Za hpn;rw[hpn];clear hg3 ho3 HC2 hpn;have hk3:=Z0o HKC.o HG3.o;have hr3:=Z0o HKR.o HG3.o;obtain⟨w4,hw4⟩:∃W,W=w3.setCell ⟨b0,6,none⟩ (.slice A3 pn c3):=⟨_,rfl⟩;have hk4:Blk w4 b0 39 [.string xm,.int .i64 xc,.int .i64 xf,.int .i64 xt,.int .i64 xa,.int .i64 xl,.slice A3 pn c3]:=by rw[hw4];exact hk3.set_ 6 _
 have e6:w3.cell? ⟨b0,6,none⟩=some (.slice EA en ed):=hk3.cell 6;have f6:=hk3.frozen 6;have HW4:=Za hw4;have HK4:=Za hk4;have HKP4:Hid (KpT 61 w3 w4):=by rw[hw4];exact(KpT.refl _ _).setCell ⟨_,_,hk3⟩ (by decide)
 have HG4:Hid (Gq w w4):=by rw[hw4];exact(HG.o.trans HG3.o).setCell (p:=⟨b0,6,none⟩) (by show _≤b0;rw[HZA.o];exact Zh _) _
 have HR4:Hid (Blk w4 (b0+1) 39 [.string ⟨#[]⟩,.int .i64 0,.int .i64 0,.int .i64 0,.int .i64 0,.int .i64 0,.slice none 0 0]):=by rw[hw4];exact Z5f hr3 (by show b0+1≠b0;omega) _
 clear hw4 hk3 hr3 hk4;go_upto_region 2 with(fail);rw[←HW4.o];clear e6 f6;have c2:w4.cell? ⟨b0,2,none⟩=some (.int .i64 xf):=HK4.o.cell 2;have c4:w4.cell? ⟨b0,4,none⟩=some (.int .i64 xa):=HK4.o.cell 4;have c5:w4.cell? ⟨b0,5,none⟩=some (.int .i64 xl):=HK4.o.cell 5;have f2:=HK4.o.frozen 2;have f4:=HK4.o.frozen 4;have f5:=HK4.o.frozen 5;obtain⟨w5,hw5⟩:∃W,W=((w4.setCell ⟨b0,2,none⟩ (.int .i64 s1)).setCell ⟨b0,4,none⟩ (.int .i64 s2)).setCell ⟨b0,5,none⟩ (.int .i64 n):=⟨_,rfl⟩;have hq1:=HK4.o.set_ 2 (.int .i64 s1);have hq2:=hq1.set_ 4 (.int .i64 s2);have hq3:=hq2.set_ 5 (.int .i64 n);have HK5:Hid (Blk w5 b0 39 [.string xm,.int .i64 xc,.int .i64 s1,.int .i64 xt,.int .i64 s2,.int .i64 n,.slice A3 pn c3]):=by rw[hw5];exact hq3
 have HKP5:Hid (KpT 61 w3 w5):=by rw[hw5];exact KpT.setCell (a:=⟨b0,5,none⟩) (KpT.setCell (a:=⟨b0,4,none⟩) (KpT.setCell (a:=⟨b0,2,none⟩) HKP4.o ⟨_,_,HK4.o⟩ (by decide)) ⟨_,_,hq1⟩ (by decide)) ⟨_,_,hq2⟩ (by decide)
 have hle:w.heap.size≤b0:=by rw[HZA.o];exact Zh _
 have HG5:Hid (Gq w w5):=by rw[hw5];exact((HG4.o.setCell (p:=⟨b0,2,none⟩) hle _).setCell (p:=⟨b0,4,none⟩) hle _).setCell (p:=⟨b0,5,none⟩) hle _
 have HR5:Hid (Blk w5 (b0+1) 39 [.string ⟨#[]⟩,.int .i64 0,.int .i64 0,.int .i64 0,.int .i64 0,.int .i64 0,.slice none 0 0]):=by rw[hw5];exact Z5f (Z5f (Z5f HR4.o (by show b0+1≠b0;omega) _) (by show b0+1≠b0;omega) _) (by show b0+1≠b0;omega) _
 have HW5:=Za hw5;clear hw5 hq1 hq2 hq3 hle;go_upto_region 3 with(fail);rw[←HW5.o];clear c2 c4 c5 f2 f4 f5 hw1 hw2 hw3;have c0:w5.cell? ⟨b0,0,none⟩=some _:=HK5.o.cell 0;have c1:w5.cell? ⟨b0,1,none⟩=some _:=HK5.o.cell 1;have c2:w5.cell? ⟨b0,2,none⟩=some _:=HK5.o.cell 2;have c3':w5.cell? ⟨b0,3,none⟩=some _:=HK5.o.cell 3;have c4:w5.cell? ⟨b0,4,none⟩=some _:=HK5.o.cell 4;have c5:w5.cell? ⟨b0,5,none⟩=some _:=HK5.o.cell 5;have c6:w5.cell? ⟨b0,6,none⟩=some _:=HK5.o.cell 6;have r0:w5.cell? ⟨b0+1,0,none⟩=some _:=HR5.o.cell 0;have r1:w5.cell? ⟨b0+1,1,none⟩=some _:=HR5.o.cell 1;have r2:w5.cell? ⟨b0+1,2,none⟩=some _:=HR5.o.cell 2;have r3:w5.cell? ⟨b0+1,3,none⟩=some _:=HR5.o.cell 3;have r4:w5.cell? ⟨b0+1,4,none⟩=some _:=HR5.o.cell 4;have r5:w5.cell? ⟨b0+1,5,none⟩=some _:=HR5.o.cell 5;have r6:w5.cell? ⟨b0+1,6,none⟩=some _:=HR5.o.cell 6;have t0:=HR5.o.frozen 0;have t1:=HR5.o.frozen 1;have t2:=HR5.o.frozen 2;have t3:=HR5.o.frozen 3;have t4:=HR5.o.frozen 4;have t5:=HR5.o.frozen 5;have t6:=HR5.o.frozen 6;have hkf:=Z1o [.string xm,.int .i64 xc,.int .i64 s1,.int .i64 xt,.int .i64 s2,.int .i64 n,.slice A3 pn c3] HR5.o rfl;have hkp:KpT 61 w5 (Z4s w5 (b0+1) 0 [.string xm,.int .i64 xc,.int .i64 s1,.int .i64 xt,.int .i64 s2,.int .i64 n,.slice A3 pn c3]):=Z2a _ HR5.o (by decide) 0;have hgf:Gq w (Z4s w5 (b0+1) 0 [.string xm,.int .i64 xc,.int .i64 s1,.int .i64 xt,.int .i64 s2,.int .i64 n,.slice A3 pn c3]):=Z0t (by rw[HZA.o];omega) _ _ _ HG5.o;obtain⟨wf,hwf⟩:∃W,Z4s w5 (b0+1) 0 [.string xm,.int .i64 xc,.int .i64 s1,.int .i64 xt,.int .i64 s2,.int .i64 n,.slice A3 pn c3]=W:=⟨_,rfl⟩;rw[hwf]at hkf hkp hgf;have hwf2:((((((w5.setCell ⟨b0+1,0,none⟩ (.string xm)).setCell ⟨b0+1,1,none⟩ (.int .i64 xc)).setCell ⟨b0+1,2,none⟩ (.int .i64 s1)).setCell ⟨b0+1,3,none⟩ (.int .i64 xt)).setCell ⟨b0+1,4,none⟩ (.int .i64 s2)).setCell ⟨b0+1,5,none⟩ (.int .i64 n)).setCell ⟨b0+1,6,none⟩ (.slice A3 pn c3)=wf:=hwf;have HWF:=Za hwf2
 have HFIN:Hid (∃y:CliM,Ending.returned (.agg #[.string xm,.int .i64 xc,.int .i64 s1,.int .i64 xt,.int .i64 s2,.int .i64 n,.slice A3 pn c3])= .returned y.v∧y.x=Y∧Z1z wf y∧Gq w wf):=
  ⟨⟨xm,xc,s1,xt,s2,n,⟨A3,c3,PS⟩⟩,by show _=Ending.returned (.agg #[.string xm,.int .i64 xc,.int .i64 s1,.int .i64 xt,.int .i64 s2,.int .i64 n,.slice A3 PS.length c3]);rw[HPN.o],HPX.o A3 c3,HPK.o A3 c3 wf hgf (HRT.o.kp (HKP5.o.trans hkp)),hgf⟩
 have k0:wf.cell? ⟨b0+1,0,none⟩=some _:=hkf.cell 0;have k1:wf.cell? ⟨b0+1,1,none⟩=some _:=hkf.cell 1;have k2:wf.cell? ⟨b0+1,2,none⟩=some _:=hkf.cell 2;have k3:wf.cell? ⟨b0+1,3,none⟩=some _:=hkf.cell 3;have k4:wf.cell? ⟨b0+1,4,none⟩=some _:=hkf.cell 4;have k5:wf.cell? ⟨b0+1,5,none⟩=some _:=hkf.cell 5;have k6:wf.cell? ⟨b0+1,6,none⟩=some _:=hkf.cell 6;clear hkf hkp hgf hwf hwf2;go_wp2_with fail;rw[HWF.o];exact bodyPost_ret (v:= .agg #[.string xm,.int .i64 xc,.int .i64 s1,.int .i64 xt,.int .i64 s2,.int .i64 n,.slice A3 pn c3]) (by simp[results,Tryz.results34,go_sem,k0,k1,k2,k3,k4,k5,k6]) rfl HFIN.o
def CutR (l:List Cli)(w:World)(e:Ending)(w':World):Prop:=
 Gq w w'∧∃s:Slc CliM,e= .returned s.v∧s.xs.map CliM.x=l∧w'.ownsRow w.heap.size 39 7 s.v s.xs.length (s.xs.flatMap CliM.cs)∧∀y∈s.xs,Z1z w' y
theorem Zf5 {wz wr w9:World}{B:Nat}{AO:Option Addr}{cO:Nat}{v9:Value}{ys:List CliM}{y:CliM}{o:Obj}(hg:Gq wz wr)(hz:wz.heap.size=B)(ho:wr.ownsRow B 39 7 (.slice AO ys.length cO) ys.length (ys.flatMap CliM.cs))(ht:∀u∈ys,Z1z wr u)(hy:Z1z wr y)
  (hown:w9.ownsRow B 39 7 v9 (ys.length+1) (ys.flatMap CliM.cs++y.cs)) (hgr:(wr.alloc o).grownBy w9 (Value.slice AO ys.length cO).ownBlock):
  Gq wz w9∧w9.ownsRow B 39 7 v9 (ys++ [y]).length ((ys++ [y]).flatMap CliM.cs)∧(∀u∈ys++ [y],Z1z w9 u):=by
 have hk:KpT 61 wr w9:=((KpT.refl _ wr).alloc o).trans (KpT.own (ho.alloc o) hgr (by decide));refine⟨Below.grown (hg.alloc o) hgr (by have:=Below.size hg;simp;omega) (fun j hj=>by have:=(ho.lt j hj).1;omega), ?_,fun u hu=> ?_⟩
 · rw[Zj,List.flatMap_append];simpa using hown
 ·
  rcases List.mem_append.1 hu with hu|hu
  · exact(ht u hu).kp hk
  · rw[List.mem_singleton.1 hu];exact hy.kp hk
theorem Zf6 {w:World}{B c:Nat}{A:Option Addr}{ys:List CliM}{y:CliM}{xs:List Value}(h:w.ownsRow B 39 7 (.slice A (ys.length+1) c) (ys++ [y]).length xs):w.ownsRow B 39 7 (.slice A (ys++ [y]).length c) (ys++ [y]).length xs:=by
 rw[Zj]at h⊢;exact h
theorem Zf7 (y:CliM):y.cs= [.string y.m,.int .i64 y.ch,.int .i64 y.fr,.int .i64 y.tr,.int .i64 y.at_,.int .i64 y.ln,.slice y.e.a y.e.xs.length y.e.c]:=rfl
theorem cut_any (x:CliM)(A:Option Addr)(m cc:Nat)(PS:List Int)(w:World)(hx:CliOk w x)(hv:Z3r x.ln x.e.xs=0)(hln:1≤x.ln∧x.ln≤100000)(hfr:(0≤x.fr∧x.fr≤10000000000000)∧0≤x.at_∧x.at_≤100000)(hr:Rd w A (ic PS))(hm:m=PS.length)(hl:PS.length≤1000)(hp:∀p∈PS, -1000000≤p∧p≤1000000):
  Calls Tryz.prog 14 #[x.v,.slice A m cc] w (CutR (Zet x.x PS) w):=by
 obtain⟨he1,he2,_⟩:=Z1k hv;obtain⟨b0,hb0⟩:∃b,w.heap.size=b:=⟨_,rfl⟩;obtain⟨wz,hwz⟩:∃wz,wz=w.alloc (.cells #[.string x.m,.int .i64 x.ch,.int .i64 x.fr,.int .i64 x.tr,.int .i64 x.at_,.int .i64 x.ln,.slice x.e.a x.e.xs.length x.e.c] 39):=⟨_,rfl⟩;have hg:Gq w wz:=by rw[hwz];exact(Gq.refl _).alloc _
 have HG:=Za hg;have HZ:Hid (wz.heap.size=b0+1):=by show _=_;rw[hwz];simp;omega
 have HKC:Hid (Blk wz b0 39 [.string x.m,.int .i64 x.ch,.int .i64 x.fr,.int .i64 x.tr,.int .i64 x.at_,.int .i64 x.ln,.slice x.e.a x.e.xs.length x.e.c]):=by rw[hwz,←hb0];exact Blk.new w _ _
 obtain⟨X,hX⟩:∃X,x.x=X:=⟨_,rfl⟩;have HPA:Hid (∀(a b:Int) (W:World),Gq wz W→0≤a→a<b→b≤x.ln→Calls Tryz.prog 34 #[x.v,.int .i64 a,.int .i64 b] W fun e w'=>∃y:CliM,e= .returned y.v∧y.x=Z9n X a b∧Z1z w' y∧Gq W w'):=fun a b W hW h1 h2 h3=>by rw[←hX];exact part_any x a b W (hx.below (hg.trans hW)) hv hln.2 hfr ⟨h1,h2,h3⟩
 have HOW:Hid (∀W,Gq wz W→Calls Tryz.prog 23 #[x.v] W fun e w'=>∃y:CliM,e= .returned y.v∧y.x=X∧Z1z w' y∧Gq W w'):=fun W hW=>by rw[←hX];exact own_any x W (hx.below (hg.trans hW)) (by omega)
 have HXX:Hid (X.at_=x.at_∧X.ln=x.ln):=by rw[←hX];exact⟨rfl,rfl⟩
 have HLN:Hid (1≤x.ln∧x.ln≤100000∧0≤x.at_∧x.at_≤100000):=⟨hln.1,hln.2,hfr.2.1,hfr.2.2⟩;have HPS:Hid (m=PS.length∧PS.length≤1000∧∀p∈PS, -1000000≤p∧p≤1000000):=⟨hm,hl,hp⟩;have HRD:=Za hr;obtain⟨FN,hFN⟩:∃FN,Zet X PS=FN:=⟨_,rfl⟩;have HFN:Hid (Z4u X (PS.foldl (Z1j X) (0,[]))=FN):=hFN;rw[hX,hFN];obtain⟨q,hq⟩:∃q,CutR FN w=q:=⟨_,rfl⟩;have HEND:Hid (∀(ys:List CliM) (AO:Option Addr) (cO:Nat) (W:World),ys.map CliM.x=FN→W.ownsRow (b0+1) 39 7 (.slice AO ys.length cO) ys.length (ys.flatMap CliM.cs)→(∀y∈ys,Z1z W y)→Gq wz W→q (.returned (.slice AO ys.length cO)) W):=fun ys AO cO W h1 h2 h3 h4=>by rw[←hq];exact⟨hg.trans h4,⟨AO,cO,ys⟩,rfl,h1,Z5e h2 (by omega),h3⟩
 rw[hq];have HWZ:=Za hwz;obtain⟨ii,hii,hzi0,hzi1,hzi2⟩:=info_parts Z7j;have HII:=Za (And.intro hii (And.intro hzi0 (And.intro hzi1 hzi2)));clear hwz hg hx hv hln hfr hr hm hl hp hFN hX hq he1 he2 hii hzi0 hzi1 hzi2;obtain⟨xm,xc,xf,xt,xa,xl,⟨EA,ed,es⟩⟩:=x;simp only[CliM.v,Slc.v]at HPA HOW⊢;simp only at HKC HPA HXX HLN HWZ;obtain⟨en,hen⟩:∃en:Nat,es.length=en:=⟨_,rfl⟩;rw[hen]at HKC HPA HOW HWZ⊢;clear hen;go_enter Tryz.func14,Tryz.ntmps14;go_upto_region 1 with(fail);rw[←HWZ.o];try simp only[hb0]
 clear hb0;go_wp2_with fail
 go_loopw [5,6,12] (fun ov fv kv wq=>∃(j:Nat) (f:Int) (ys:List CliM) (AO:Option Addr) (cO:Nat),j≤m∧kv= .int .i64 (j:Int)∧fv= .int .i64 f∧ov= .slice AO ys.length cO∧Hid ((PS.take j).foldl (Z1j X) (0,[])=(f,ys.map CliM.x)∧(0≤f∧f<xl)∧ys.length≤j)∧Hid (wq.ownsRow (b0+1) 39 7 (.slice AO ys.length cO) ys.length (ys.flatMap CliM.cs)∧(∀y∈ys,Z1z wq y)∧Gq wz wq)) (fun _ _ kv _=>m - (intOf kv).toNat)
 case atStart=>exact⟨0,0,[],none,0,Nat.zero_le _,rfl,rfl,rfl,⟨rfl,⟨Int.le_refl _,by have:=HLN.o.1;omega⟩,Zh _⟩,World.ownsRow_nil _ _ _ _,(fun y hy=>by simp at hy),Gq.refl _⟩
 case round=>
  obtain⟨j,f,ys,AO,cO,hj,rfl,rfl,rfl,HF,HW⟩:=hrel;have hm5:m≤1000:=by have h1:=HPS.o.1;have h2:=HPS.o.2.1;omega
  have hkc:=Z0o HKC.o HW.o.2.2;have c0:wr.cell? ⟨b0,0,none⟩=some (.string xm):=hkc.cell 0;have c1:wr.cell? ⟨b0,1,none⟩=some (.int .i64 xc):=hkc.cell 1;have c2:wr.cell? ⟨b0,2,none⟩=some (.int .i64 xf):=hkc.cell 2;have c3:wr.cell? ⟨b0,3,none⟩=some (.int .i64 xt):=hkc.cell 3;have c4:wr.cell? ⟨b0,4,none⟩=some (.int .i64 xa):=hkc.cell 4;have c5:wr.cell? ⟨b0,5,none⟩=some (.int .i64 xl):=hkc.cell 5;have c6:wr.cell? ⟨b0,6,none⟩=some (.slice EA en ed):=hkc.cell 6;clear hkc;by_cases hlt:j<m
  case neg=>
   have hd0:decide (j<m)=false:=(by simpa using hlt);have HFE:Hid (Z4u X (f,ys.map CliM.x)=FN):=(by have h:=HF.o.1;rw[Zl (by have:=HPS.o.1;omega)]at h;rw[←h];exact HFN.o);have hyl:ys.length≤1000:=(by have:=HF.o.2.2;omega);clear hlt;by_cases hf0:f=0
   · have hd1:(f==0)=true:=(by simpa using hf0);have HFX:Hid ([X]=FN):=(by have h:=HFE.o;unfold Z4u at h;rw[if_pos hf0]at h;exact h);have HC1:=Za (HOW.o wr HW.o.2.2);have HGR:=Za HW.o.2.2;clear hf0 HFE HF;go_wp2_with fail;refine HC1.o.mono ?_;rintro e w5 ⟨y,rfl,hyx,hyt,hg5⟩;have HG5:Hid (Gq wz w5):=HGR.o.trans hg5;obtain⟨ym,yc,yf,yt,ya,yl,⟨YA,yd,yes⟩⟩:=y;have hlit:=World.ownsRow_lit (base:=b0+1) (e:=39) (size:=7) w5 #[.string ym,.int .i64 yc,.int .i64 yf,.int .i64 yt,.int .i64 ya,.int .i64 yl,.slice YA yes.length yd] 1 (by have h1:=Below.size HG5.o;have h2:=HZ.o;omega) (by decide) rfl;have HFIN:=Za (HEND.o [⟨ym,yc,yf,yt,ya,yl,⟨YA,yd,yes⟩⟩] (some ⟨w5.heap.size,0,none⟩) 1 _ (by rw[←HFX.o,←hyx];rfl) hlit (fun u hu=>by rw[List.mem_singleton.1 hu];exact hyt.gq ((Gq.refl _).alloc _)) (HG5.o.alloc _));clear hyx hyt hg5 hlit HC1 c0 c1 c2 c3 c4 c5 c6;go_wp2_with fail;exact HFIN.o
   · have hd1:(f==0)=false:=(by simpa using hf0);have HFX:Hid (ys.map CliM.x++ [Z9n X f X.ln]=FN):=(by have h:=HFE.o;unfold Z4u at h;rw[if_neg hf0]at h;exact h);have HC1:=Za (HPA.o f xl wr HW.o.2.2 HF.o.2.1.1 HF.o.2.1.2 (Int.le_refl _));clear hf0 HFE HF;go_wp2_with fail;refine HC1.o.mono ?_;rintro e w5 ⟨y,rfl,hyx,hyt,hg5⟩;have HG5:Hid (Gq wr w5):=hg5;have HGZ5:Hid (Gq wz w5):=HW.o.2.2.trans hg5;have HO5:Hid (w5.ownsRow (b0+1) 39 7 (.slice AO ys.length cO) ys.length (ys.flatMap CliM.cs)):=Z04 HW.o.1 hg5;have HT5:Hid (∀u∈ys,Z1z w5 u):=fun u hu=>(HW.o.2.1 u hu).gq hg5;have HYT:=Za hyt;have HYX:Hid (y.x=Z9n X f xl):=hyx;have HZ5:Hid (b0+1≤w5.heap.size):=(by have h1:=Below.size HGZ5.o;have h2:=HZ.o;show _≤_;omega);have HYC:=Za (Zf7 y);clear hyx hyt hg5 HC1 c0 c1 c2 c3 c4 c5 c6;obtain⟨y',hy'⟩:∃z,y=z:=⟨_,rfl⟩;have HYV:Hid (y.v=y'.v∧y'.cs= [.string y.m,.int .i64 y.ch,.int .i64 y.fr,.int .i64 y.tr,.int .i64 y.at_,.int .i64 y.ln,.slice y.e.a y.e.xs.length y.e.c]):=(by rw[←hy'];exact⟨rfl,rfl⟩);rw[hy']at HYT HYX HYC;clear hy';obtain⟨ym,yc,yf,yt,ya,yl,⟨YA,yd,yes⟩⟩:=y;simp only at HYV;obtain⟨yn,hyn⟩:∃k:Nat,yes.length=k:=⟨_,rfl⟩;rw[hyn]at HYV⊢;clear hyn;go_wp2_with (at_builtin; (refine wpList_append_own _ rfl _ _ 22 rfl (b0+1) 39 ii _ 7 80 Tryz.underlying22 HII.o.1 HII.o.2.1 HII.o.2.2.1 HII.o.2.2.2 rfl (by decide) (.slice AO ys.length cO) ys.length (ys.flatMap CliM.cs) rfl (HO5.o.alloc _) ⟨w5.heap.size,0,none⟩ 1 1 [.string ym,.int .i64 yc,.int .i64 yf,.int .i64 yt,.int .i64 ya,.int .i64 yl,.slice YA yn yd] (by rfl) (by rfl) (World.news_of_block (cs:= #[.string ym,.int .i64 yc,.int .i64 yf,.int .i64 yt,.int .i64 ya,.int .i64 yl,.slice YA yn yd]) (t:=39) (fr:=(0,0)) (by exact heap_alloc_new w5 _)) (by simp[Value.oneCell']) (by unfold maxLen;omega) (by omega) (by have:=HZ5.o;simp;omega) ?_);intro v9 w9 hown9 hgrow9 _;rw[←HYV.o.2]at hown9;have hend:=Zf5 HGZ5.o HZ.o HO5.o HT5.o HYT.o hown9 hgrow9;obtain⟨A9,c9,rfl⟩:=Z08 hown9;have HE9:=Za hend;clear hend hown9 hgrow9);have hfin:=HEND.o (ys++ [y']) A9 c9 _ (by rw[List.map_append,←HFX.o,List.map_cons,List.map_nil,HYX.o,HXX.o.2]) (Zf6 HE9.o.2.1) HE9.o.2.2 HE9.o.1;rw[Zj]at hfin;exact hfin
  have hd0:decide (j<m)=true:=by simpa using hlt
  have hjl:j<PS.length:=by have:=HPS.o.1;omega
  obtain⟨b,off,hA,hbb,hcs⟩:=Rd.at_ (HRD.o.below (HG.o.trans HW.o.2.2)) (by show 0<(ic PS).length;simp[ic];omega);obtain rfl:A=some ⟨b,off,none⟩:=hA;obtain⟨p,hp⟩:∃z,PS[j]=z:=⟨_,rfl⟩;have d0:wr.cell? ⟨b,off+j,none⟩=some (.int .i64 p):=hcs j _ (by unfold ic;rw[List.getElem?_map,Zi hjl,hp];rfl);have hpb:=HPS.o.2.2 p (by rw[←hp];exact Zn hjl);have HNX:Hid ((PS.take (j+1)).foldl (Z1j X) (0,[])=Z1j X (f,ys.map CliM.x) p):=by show _=_;rw[List.take_succ_eq_append_getElem hjl,List.foldl_append,HF.o.1,hp];rfl
  obtain⟨i,hi⟩:∃s,p - xa=s:=⟨_,rfl⟩;have hwi:IntKind.i64.wrap (p - xa)=i:=by rw[←hi];have:=HLN.o;exact IntWalk.i64_in _ (by omega)
  have HI:Hid (p - X.at_=i):=by show _=_;rw[HXX.o.1];exact hi
  have i0:(0:Int)≤(j:Int):=by omega
  have i1:(j:Int)<(m:Int):=by omega
  clear hcs hp hi hpb hjl;by_cases hfi:f<i
  case neg=>
   have hd1:decide (f<i)=false:=(by simpa using hfi);have HN2:Hid ((PS.take (j+1)).foldl (Z1j X) (0,[])=(f,ys.map CliM.x)∧(0≤f∧f<xl)∧ys.length≤j+1):=(by refine⟨?_,HF.o.2.1,by have:=HF.o.2.2;omega⟩;rw[HNX.o];unfold Z1j;rw[HI.o,if_neg (fun g=>hfi g.1)]);clear hfi;go_wp2_with fail;go_roundw
   case rel=>exact⟨j+1,f,ys,AO,cO,by omega,by go_num,rfl,rfl,HN2.o,HW.o⟩
   case measure=>simp[intOf];omega
  have hd1:decide (f<i)=true:=by simpa using hfi
  by_cases hil:i<xl
  case neg=>
   have hd2:decide (i<xl)=false:=(by simpa using hil);have HN2:Hid ((PS.take (j+1)).foldl (Z1j X) (0,[])=(f,ys.map CliM.x)∧(0≤f∧f<xl)∧ys.length≤j+1):=(by refine⟨?_,HF.o.2.1,by have:=HF.o.2.2;omega⟩;rw[HNX.o];unfold Z1j;rw[HI.o,if_neg (fun g=>hil (by have h:=g.2;have h2:=HXX.o.2;show i<xl;rw[←h2];exact h))]);clear hil hfi;go_wp2_with fail;go_roundw
   case rel=>exact⟨j+1,f,ys,AO,cO,by omega,by go_num,rfl,rfl,HN2.o,HW.o⟩
   case measure=>simp[intOf];omega
  have hd2:decide (i<xl)=true:=by simpa using hil
  have HN2:Hid ((PS.take (j+1)).foldl (Z1j X) (0,[])=(i,ys.map CliM.x++ [Z9n X f i])∧(0≤i∧i<xl)∧ys.length+1≤j+1):=by refine⟨?_,⟨by have:=HF.o.2.1.1;omega,hil⟩,by have:=HF.o.2.2;omega⟩;rw[HNX.o];unfold Z1j;rw[HI.o,if_pos ⟨hfi,by rw[HXX.o.2];exact hil⟩]
  have HC1:=Za (HPA.o f i wr HW.o.2.2 HF.o.2.1.1 hfi (by omega));have hyl:ys.length≤1000:=by have:=HF.o.2.2;omega
  clear hil hfi;go_wp2_with fail;refine HC1.o.mono ?_;rintro e w5 ⟨y,rfl,hyx,hyt,hg5⟩;have HGZ5:Hid (Gq wz w5):=HW.o.2.2.trans hg5;have HO5:Hid (w5.ownsRow (b0+1) 39 7 (.slice AO ys.length cO) ys.length (ys.flatMap CliM.cs)):=Z04 HW.o.1 hg5;have HT5:Hid (∀u∈ys,Z1z w5 u):=fun u hu=>(HW.o.2.1 u hu).gq hg5;have HYT:=Za hyt;have HYX:Hid (y.x=Z9n X f i):=hyx;have HZ5:Hid (b0+1≤w5.heap.size):=by have h1:=Below.size HGZ5.o;have h2:=HZ.o;show _≤_;omega
  clear hyx hyt hg5 HC1 c0 c1 c2 c3 c4 c5 c6 d0;obtain⟨y',hy'⟩:∃z,y=z:=⟨_,rfl⟩;have HYV:Hid (y.v=y'.v∧y'.cs= [.string y.m,.int .i64 y.ch,.int .i64 y.fr,.int .i64 y.tr,.int .i64 y.at_,.int .i64 y.ln,.slice y.e.a y.e.xs.length y.e.c]):=by rw[←hy'];exact⟨rfl,rfl⟩
  rw[hy']at HYT HYX;clear hy';obtain⟨ym,yc,yf,yt,ya,yl,⟨YA,yd,yes⟩⟩:=y;simp only at HYV;obtain⟨yn,hyn⟩:∃k:Nat,yes.length=k:=⟨_,rfl⟩;rw[hyn]at HYV⊢;clear hyn;go_wp2_with (at_builtin; (refine wpList_append_own _ rfl _ _ 22 rfl (b0+1) 39 ii _ 7 80 Tryz.underlying22 HII.o.1 HII.o.2.1 HII.o.2.2.1 HII.o.2.2.2 rfl (by decide) (.slice AO ys.length cO) ys.length (ys.flatMap CliM.cs) rfl (HO5.o.alloc _) ⟨w5.heap.size,0,none⟩ 1 1 [.string ym,.int .i64 yc,.int .i64 yf,.int .i64 yt,.int .i64 ya,.int .i64 yl,.slice YA yn yd] (by rfl) (by rfl) (World.news_of_block (cs:= #[.string ym,.int .i64 yc,.int .i64 yf,.int .i64 yt,.int .i64 ya,.int .i64 yl,.slice YA yn yd]) (t:=39) (fr:=(0,0)) (by exact heap_alloc_new w5 _)) (by simp[Value.oneCell']) (by unfold maxLen;omega) (by omega) (by have:=HZ5.o;simp;omega) ?_);intro v9 w9 hown9 hgrow9 _;rw[←HYV.o.2]at hown9;have hend:=Zf5 HGZ5.o HZ.o HO5.o HT5.o HYT.o hown9 hgrow9;obtain⟨A9,c9,rfl⟩:=Z08 hown9;have HE9:=Za hend;clear hend hown9 hgrow9);go_roundw
  case rel=>exact⟨j+1,i,ys++ [y'],A9,c9,by omega,by go_num,rfl,by rw[Zj];rfl,⟨by rw[HN2.o.1,List.map_append,List.map_cons,List.map_nil,HYX.o],HN2.o.2.1,by rw[Zj];exact HN2.o.2.2⟩,Zf6 HE9.o.2.1,HE9.o.2.2,HE9.o.1⟩
  case measure=>simp[intOf];omega
theorem Zf8 (a b:Int)(w:World):Calls Tryz.prog 13 #[.agg #[.int .i64 a,.int .i64 b]] w fun e w'=>e= .returned (.int .i64 (Z15 a b))∧Gq w w':=by
 have HG:Hid (Gq w (w.alloc (.cells #[.int .i64 a,.int .i64 b] 26))):=(Gq.refl _).alloc _;by_cases h1:a<0
 · have d1:decide (a<0)=true:=(by simpa using h1);have e:Z15 a b=1:=(by unfold Z15;rw[if_pos (.inl h1)]);rw[e];go_enter Tryz.func13,Tryz.ntmps13;go_wp2_with fail;go_ret;exact⟨rfl,HG.o⟩
 ·
  have d1:decide (a<0)=false:=by simpa using h1
  by_cases h2:100000<b
  · have d2:decide (100000<b)=true:=(by simpa using h2);have e:Z15 a b=1:=(by unfold Z15;rw[if_pos (.inr (.inl h2))]);rw[e];go_enter Tryz.func13,Tryz.ntmps13;go_wp2_with fail;go_ret;exact⟨rfl,HG.o⟩
  ·
   have d2:decide (100000<b)=false:=(by simpa using h2);by_cases h3:b<a
   · have d3:decide (b<a)=true:=(by simpa using h3);have e:Z15 a b=1:=(by unfold Z15;rw[if_pos (.inr (.inr h3))]);rw[e];go_enter Tryz.func13,Tryz.ntmps13;go_wp2_with fail;go_ret;exact⟨rfl,HG.o⟩
   · have d3:decide (b<a)=false:=(by simpa using h3);have e:Z15 a b=0:=(by unfold Z15;rw[if_neg (by omega)]);rw[e];go_enter Tryz.func13,Tryz.ntmps13;go_wp2_with fail;go_ret;exact⟨rfl,HG.o⟩
theorem Zf9 (a b:Int)(w:World):Calls Tryz.prog 37 #[.agg #[.int .i64 a,.int .i64 b]] w fun e w'=>e= .returned (.int .i64 (Z15 a b))∧Gq w w':=by
 have HG:Hid (Gq w (w.alloc (.cells #[.int .i64 a,.int .i64 b] 26))):=(Gq.refl _).alloc _;by_cases h1:a<0
 · have d1:decide (a<0)=true:=(by simpa using h1);have e:Z15 a b=1:=(by unfold Z15;rw[if_pos (.inl h1)]);rw[e];go_enter Tryz.func37,Tryz.ntmps37;go_wp2_with fail;go_ret;exact⟨rfl,HG.o⟩
 ·
  have d1:decide (a<0)=false:=by simpa using h1
  by_cases h2:100000<b
  · have d2:decide (100000<b)=true:=(by simpa using h2);have e:Z15 a b=1:=(by unfold Z15;rw[if_pos (.inr (.inl h2))]);rw[e];go_enter Tryz.func37,Tryz.ntmps37;go_wp2_with fail;go_ret;exact⟨rfl,HG.o⟩
  ·
   have d2:decide (100000<b)=false:=(by simpa using h2);by_cases h3:b<a
   · have d3:decide (b<a)=true:=(by simpa using h3);have e:Z15 a b=1:=(by unfold Z15;rw[if_pos (.inr (.inr h3))]);rw[e];go_enter Tryz.func37,Tryz.ntmps37;go_wp2_with fail;go_ret;exact⟨rfl,HG.o⟩
   · have d3:decide (b<a)=false:=(by simpa using h3);have e:Z15 a b=0:=(by unfold Z15;rw[if_neg (by omega)]);rw[e];go_enter Tryz.func37,Tryz.ntmps37;go_wp2_with fail;go_ret;exact⟨rfl,HG.o⟩
theorem builtEdA:Tryz.prog.built 24 []=some #[.int .i64 0,.int .i64 0,.slice none 0 0]:=by kernel_rfl
theorem builtEd2 (rt tk:Int):Tryz.prog.built 24 [(0,.int .i64 rt),(1,.int .i64 tk)]=some #[.int .i64 rt,.int .i64 tk,.slice none 0 0]:=by kernel_rfl
theorem runEdA (w:World):(Instr.build 24 #[]).run Tryz.prog w= .ok (.agg #[.int .i64 0,.int .i64 0,.slice none 0 0]) w:=run_build w _ _ _ builtEdA
def OutS (w5:World)(g:Nat)(rt tk:Int)(zs:List CliM)(AO:Option Addr)(cO:Nat)(w:World):Prop:=
 Blk w g 24 [.int .i64 rt,.int .i64 tk,.slice AO zs.length cO]∧w.ownsRow (g+1) 39 7 (.slice AO zs.length cO) zs.length (zs.flatMap CliM.cs)∧(∀y∈zs,Z1z w y)∧Gq w5 w∧g+1≤w.heap.size
def SidS (g:Nat)(ss:List CliM)(SA:Option Addr)(sc:Nat)(V:Value)(w:World):Prop:=
 w.ownsRow (g+1) 39 7 (.slice SA ss.length sc) ss.length (ss.flatMap CliM.cs)∧(∀b,(Value.slice SA ss.length sc).ownBlock=some b→V.ownBlock≠some b)∧∀y∈ss,Z1z w y
theorem OutS.gq {w5 w w':World}{g:Nat}{rt tk:Int}{zs:List CliM}{AO:Option Addr}{cO:Nat}(h:OutS w5 g rt tk zs AO cO w)(hg:Gq w w'):OutS w5 g rt tk zs AO cO w':=
 ⟨Z0o h.1 hg,Z04 h.2.1 hg,fun y hy=>(h.2.2.1 y hy).gq hg,h.2.2.2.1.trans hg,Nat.le_trans h.2.2.2.2 (Below.size hg)⟩
theorem SidS.gq {g:Nat}{ss:List CliM}{SA:Option Addr}{sc:Nat}{V:Value}{w w':World}(h:SidS g ss SA sc V w)(hg:Gq w w'):SidS g ss SA sc V w':=
 ⟨Z04 h.1 hg,h.2.1,fun y hy=>(h.2.2 y hy).gq hg⟩
theorem out_app {w5 wd w9:World}{g g9 cap9:Nat}{rt tk:Int}{zs:List CliM}{zm:CliM}{AO:Option Addr}{cO:Nat}{o:Obj}(h5:w5.heap.size=g)(h:OutS w5 g rt tk zs AO cO wd)(hz:Z1z wd zm)
  (hown:w9.ownsRow (g+1) 39 7 (.slice (some ⟨g9,0,none⟩) (zs.length+1) cap9) (zs.length+1) (zs.flatMap CliM.cs++zm.cs)) (hgr:(wd.alloc o).grownBy w9 (Value.slice AO zs.length cO).ownBlock):
  Blk w9 g 24 [.int .i64 rt,.int .i64 tk,.slice AO zs.length cO]∧OutS w5 g rt tk (zs++ [zm]) (some ⟨g9,0,none⟩) cap9 (w9.setCell ⟨g,2,none⟩ (.slice (some ⟨g9,0,none⟩) (zs.length+1) cap9)):=by
 obtain⟨h1,h2,h3,h4,h6⟩:=h;have hne:some g≠(Value.slice AO zs.length cO).ownBlock:=fun e=>by have:=(h2.lt _ e.symm).1;omega
 have hk:Blk w9 g 24 [.int .i64 rt,.int .i64 tk,.slice AO zs.length cO]:=Zc4 (Z0o h1 ((Gq.refl _).alloc o)) hgr hne;have hl:(zs++ [zm]).length=zs.length+1:=by simp
 have hsA:(wd.alloc o).heap.size=wd.heap.size+1:=by simp
 have hkp:KpT 61 wd w9:=((KpT.refl _ _).alloc _).trans (KpT.own (h2.alloc o) hgr (by decide));have hb:Gq w5 w9:=Below.grown (h4.alloc o) hgr (by rw[hsA];omega) (fun j hj=>by have:=(h2.lt j hj).1;omega);refine⟨hk, ?_, ?_,fun y hy=> ?_,hb.setCell (p:=⟨g,2,none⟩) (by rw[h5];exact Zh _) _, ?_⟩
 · rw[hl];exact hk.set_ 2 _
 · rw[hl,List.flatMap_append,List.flatMap_cons,List.flatMap_nil,List.append_nil];exact Z9j hown (p:=⟨g,2,none⟩) (by show g<g+1;omega) _
 ·
  refine Z1z.kp (w:=wd) ?_ (hkp.setCell ⟨_,_,hk⟩ (by decide));rcases List.mem_append.1 hy with hy|hy
  · exact h3 y hy
  · rw[List.mem_singleton.1 hy];exact hz
 · have:=hgr.size;simp only[World.setCell,Array.size_modify];omega
theorem sid_ne {V X:Value}(h:∀b,V.ownBlock=some b→X.ownBlock≠some b):V.ownBlock=none∨V.ownBlock≠X.ownBlock:=by
 cases hv:V.ownBlock with
 |none=>exact .inl rfl
 |some b=>exact .inr fun e=>h b hv e.symm
theorem sid_app {wd w9:World}{w5:World}{g g9 cap9:Nat}{rt tk:Int}{zs ss:List CliM}{AO SA:Option Addr}{cO sc:Nat}{o:Obj}{u:Value}(h:OutS w5 g rt tk zs AO cO wd)(hs:SidS g ss SA sc (.slice AO zs.length cO) wd)
  (hk:Blk w9 g 24 [.int .i64 rt,.int .i64 tk,.slice AO zs.length cO])
  (hgr:(wd.alloc o).grownBy w9 (Value.slice AO zs.length cO).ownBlock) (hat:(Value.slice AO zs.length cO).ownBlock=some g9∨g9=(wd.alloc o).heap.size) {m:Nat}:
  SidS g ss SA sc (.slice (some ⟨g9,0,none⟩) m cap9) (w9.setCell ⟨g,2,none⟩ u):=by
 obtain⟨h1,h2,h3⟩:=hs;have hsA:(wd.alloc o).heap.size=wd.heap.size+1:=by simp
 have hkp:KpT 61 wd w9:=((KpT.refl _ _).alloc _).trans (KpT.own (h.2.1.alloc o) hgr (by decide));refine⟨Z9j ((h1.alloc o).kept hgr (sid_ne h2)) (p:=⟨g,2,none⟩) (by show g<g+1;omega) u,Zeg (w:=wd.alloc o) (v:= .slice AO zs.length cO) rfl hat h2 (fun b hb=>by have:=(h1.lt b hb).2;omega),fun y hy=>(h3 y hy).kp (hkp.setCell ⟨_,_,hk⟩ (by decide))⟩
theorem cutK_bnd {c:Cli}{nm:ByteArray→Bool}{tk:Int}(h:Z3n nm tk c=0)(ps:List Int):∀d∈Zet c ps,(0≤d.at_∧d.at_≤100000)∧0≤d.ln∧d.ln≤100000:=fun d hd=>by
 have h2:=(Z5o h).r;rcases cutK_mem (Zeu h) ps d hd with rfl|⟨a,b,a0,ab,bl,rfl⟩
 · omega
 · show(0≤c.at_+a∧c.at_+a≤100000)∧0≤b - a∧b - a≤100000;omega
theorem Z8r {c:Cli}(a b:Int):(Zet c [a,b]).length≤3:=by
 show(Z4u c (Z1j c (Z1j c (0,[]) a) b)).length≤3;unfold Z4u;have h:∀(s:Int×List Cli) (p:Int),(Z1j c s p).2.length≤s.2.length+1:=fun s p=>by unfold Z1j;split<;>simp
 have h1:=h (0,[]) a;have h2:=h (Z1j c (0,[]) a) b;by_cases hz:(Z1j c (Z1j c (0,[]) a) b).1=0
 · rw[if_pos hz];simp
 · rw[if_neg hz,Zj];simp at h1⊢;omega
theorem extK_len (c:Cli)(a b:Int):(Z9o a b c).length≤3:=by
 unfold Z9o;rw[List.length_map];exact Nat.le_trans (List.length_filter_le _ _) (Z8r a b)
theorem Z9r (x:EdtM)(a b:Int)(w:World)(hx:EdtOk w x):
  Calls Tryz.prog 5 #[x.v,.agg #[.int .i64 a,.int .i64 b]] w (EdiR (extQ Z0r 1000000 x.x a b) w):=by
 obtain⟨r,hr⟩:∃r,extQ Z0r 1000000 x.x a b=r:=⟨_,rfl⟩;obtain⟨b0,hb0⟩:∃b,w.heap.size=b:=⟨_,rfl⟩;obtain⟨f,hf⟩:∃f,Z0y Z0r 1000000 x.x=f:=⟨_,rfl⟩;obtain⟨g,hg⟩:∃g,Z15 a b=g:=⟨_,rfl⟩;have HCE:Hid (∀W,Gq w W→Calls Tryz.prog 12 #[x.v] W fun e w'=>e= .returned (.int .i64 f)∧Gq W w'):=fun W hW=>by rw[←hf];exact Z62 x W (hx.below hW)
 have HSPN:Hid (∀W,Calls Tryz.prog 13 #[.agg #[.int .i64 a,.int .i64 b]] W fun e w'=>e= .returned (.int .i64 g)∧Gq W w'):=fun W=>by rw[←hg];exact Zf8 a b W
 have HB1:Hid (f≠0→r=(e0,f)):=fun h=>by rw[←hr];unfold extQ;rw[hf,if_pos h]
 have HB2:Hid (f=0→g≠0→r=(e0,g)):=fun h k=>by rw[←hr];unfold extQ;rw[hf,hg,if_neg (fun j=>j h),if_pos k]
 have HGOOD:Hid (f=0→g=0→(Z0y Z0r 1000000 x.x=0∧0≤a∧a≤b∧b≤100000)∧r=mkE Z0r 1000000 ⟨x.rate,x.tracks,Z34 (x.x.cs.flatMap (Z9o a b))⟩):=fun h k=>by
  have hs2:0≤a∧a≤b∧b≤100000:=by
   rw[←hg]at k;unfold Z15 at k
   split at k
   · exact absurd k (by decide)
   · omega
  refine⟨⟨hf.trans h,hs2⟩, ?_⟩;rw[←hr];unfold extQ;rw[hf,hg,if_neg (fun j=>j h),if_neg (fun j=>j k)];rfl
 rw[hr];obtain⟨wa,hwa⟩:∃wa,wa=w.alloc (.cells #[.int .i64 x.rate,.int .i64 x.tracks,.slice x.cs.a x.cs.xs.length x.cs.c] 24):=⟨_,rfl⟩;obtain⟨wb,hwb⟩:∃wb,wb=wa.alloc (.cells #[.int .i64 a,.int .i64 b] 26):=⟨_,rfl⟩;obtain⟨wc,hwc⟩:∃wc,wc=wb.alloc (.cells #[.int .i64 0,.int .i64 0,.slice none 0 0] 24):=⟨_,rfl⟩;have hga:Gq w wa:=by rw[hwa];exact(Gq.refl _).alloc _
 have hgb:Gq wa wb:=by rw[hwb];exact(Gq.refl _).alloc _
 have hgc:Gq wb wc:=by rw[hwc];exact(Gq.refl _).alloc _
 have hza:wa.heap.size=b0+1:=by rw[hwa];simp;omega
 have hzb:wb.heap.size=b0+2:=by rw[hwb];simp;omega
 have HG:Hid (Gq w wc):=hga.trans (hgb.trans hgc);have HKE:Hid (Blk wc b0 24 [.int .i64 x.rate,.int .i64 x.tracks,.slice x.cs.a x.cs.xs.length x.cs.c]):=by refine Z0o (?_:Blk wa b0 _ _) (hgb.trans hgc);rw[hwa,←hb0];exact Blk.new w _ _
 have HKP:Hid (Blk wc (b0+1) 26 [.int .i64 a,.int .i64 b]):=by refine Z0o (?_:Blk wb (b0+1) _ _) hgc;rw[hwb,←hza];exact Blk.new wa _ _
 have HKR:Hid (Blk wc (b0+2) 24 [.int .i64 0,.int .i64 0,.slice none 0 0]):=by rw[hwc,←hzb];exact Blk.new wb _ _
 have HRB:Hid (∀W,Blk W (b0+2) 24 [.int .i64 0,.int .i64 0,.slice none 0 0]→W.cell? ⟨b0+2,0,none⟩=some (.int .i64 0)∧W.cell? ⟨b0+2,1,none⟩=some (.int .i64 0)∧W.cell? ⟨b0+2,2,none⟩=some (.slice none 0 0)∧W.frozen? ⟨b0+2,0,none⟩=false∧W.frozen? ⟨b0+2,1,none⟩=false∧W.frozen? ⟨b0+2,2,none⟩=false):=fun W k=>
  ⟨k.cell 0,k.cell 1,k.cell 2,k.frozen 0,k.frozen 1,k.frozen 2⟩
 have HEND:Hid (∀W (p q s:Value),Gq w W→Blk W (b0+2) 24 [.int .i64 0,.int .i64 0,.slice none 0 0]→((((W.setCell ⟨b0+2,0,none⟩ p).setCell ⟨b0+2,1,none⟩ q).setCell ⟨b0+2,2,none⟩ s).cell? ⟨b0+2,0,none⟩=some p∧(((W.setCell ⟨b0+2,0,none⟩ p).setCell ⟨b0+2,1,none⟩ q).setCell ⟨b0+2,2,none⟩ s).cell? ⟨b0+2,1,none⟩=some q∧(((W.setCell ⟨b0+2,0,none⟩ p).setCell ⟨b0+2,1,none⟩ q).setCell ⟨b0+2,2,none⟩ s).cell? ⟨b0+2,2,none⟩=some s)∧Gq w (((W.setCell ⟨b0+2,0,none⟩ p).setCell ⟨b0+2,1,none⟩ q).setCell ⟨b0+2,2,none⟩ s)∧KpT 39 W (((W.setCell ⟨b0+2,0,none⟩ p).setCell ⟨b0+2,1,none⟩ q).setCell ⟨b0+2,2,none⟩ s)∧KpT 61 W (((W.setCell ⟨b0+2,0,none⟩ p).setCell ⟨b0+2,1,none⟩ q).setCell ⟨b0+2,2,none⟩ s)):=fun W p q s hg hk=>by have h1:=Z1o [p,q,s] hk rfl;exact⟨⟨h1.cell 0,h1.cell 1,h1.cell 2⟩,Z0t (by omega) [p,q,s] W 0 hg,Z2a [p,q,s] hk (by decide) 0,Z2a [p,q,s] hk (by decide) 0⟩
 have HE0:=Za runEdA;have HC1:=Za (HCE.o wc HG.o);rw[hwa]at hwb;rw[hwb]at hwc;have HWC:=Za hwc;have HOX:=Za hx;obtain⟨X,hX⟩:∃X,x=X:=⟨_,rfl⟩;have HXE:Hid (x=X):=hX;rw[hX]at HGOOD HOX;obtain⟨rt,tk,⟨EA,ed,es⟩⟩:=x;simp only[EdtM.v,Slc.v]at HC1⊢;simp only at HKE HWC;obtain⟨en,hen⟩:∃n,es.length=n:=⟨_,rfl⟩;have HXS:Hid (X.rate=rt∧X.tracks=tk∧X.cs.a=EA∧X.cs.c=ed∧X.cs.xs=es∧es.length=en):=by rw[←HXE.o];exact⟨rfl,rfl,rfl,rfl,rfl,hen⟩
 rw[hen]at HKE HC1 HWC⊢;have c0:wc.cell? ⟨b0,0,none⟩=some (.int .i64 rt):=HKE.o.cell 0;have c1:wc.cell? ⟨b0,1,none⟩=some (.int .i64 tk):=HKE.o.cell 1;have c2:wc.cell? ⟨b0,2,none⟩=some (.slice EA en ed):=HKE.o.cell 2;have HZC:Hid (b0+3≤wc.heap.size):=by show _≤_;rw[hwc];simp;omega
 clear hwa hwb hwc hga hgb hgc hza hzb HCE hx hr hf hg hX HXE hen;go_enter Tryz.func5,Tryz.ntmps5;go_upto_region 1 with(fail);rw[←HWC.o];try simp only[hb0]
 have HB0:Hid (w.heap.size=b0):=hb0;clear hb0 HWC;go_wp2_with fail;refine HC1.o.mono ?_;rintro e w2 ⟨rfl,hg2⟩;have HGC2:Hid (Gq wc w2):=hg2;have HG2:Hid (Gq w w2):=HG.o.trans hg2;have HKR2:=Za (Z0o HKR.o hg2);clear hg2 c0 c1 c2 HC1;by_cases hf0:f=0
 case neg=>have HR:=Za (HB1.o hf0);have hfb:(f !=0)=true:=(by simpa using hf0);obtain⟨k0,k1,k2,f0,f1,f2⟩:=HRB.o w2 HKR2.o;obtain⟨⟨x0,x1,x2⟩,hge, -, -⟩:=HEND.o w2 (.int .i64 0) (.int .i64 0) (.slice none 0 0) HG2.o HKR2.o;have HGE:=Za hge;have hrun:=HE0.o w2;clear hge hf0 HB1 HB2 HGOOD;go_wp2_with fail;exact bodyPost_ret (v:= .tuple #[.agg #[.int .i64 0,.int .i64 0,.slice none 0 0],.int .i64 f]) (by simp[results,Tryz.results5,go_sem,x0,x1,x2]) rfl (Z3e HR.o HGE.o)
 subst hf0;have hfb:((0:Int) !=0)=false:=rfl;have HC2:=Za (HSPN.o w2);have hkp2:=Z0o HKP.o HGC2.o;have g0:w2.cell? ⟨b0+1,0,none⟩=some (.int .i64 a):=hkp2.cell 0;have g1:w2.cell? ⟨b0+1,1,none⟩=some (.int .i64 b):=hkp2.cell 1;clear hkp2 HB1 HSPN;go_wp2_with fail;refine HC2.o.mono ?_;rintro e w5 ⟨rfl,hg5⟩;have HGC5:Hid (Gq wc w5):=HGC2.o.trans hg5;have HG5:Hid (Gq w w5):=HG2.o.trans hg5;have HKR5:=Za (Z0o HKR2.o hg5);clear hg5 g0 g1 HC2;by_cases hg0:g=0
 case neg=>have HR:=Za (HB2.o (by simp) hg0);have hgb:(g !=0)=true:=(by simpa using hg0);obtain⟨k0,k1,k2,f0,f1,f2⟩:=HRB.o w5 HKR5.o;obtain⟨⟨x0,x1,x2⟩,hge, -, -⟩:=HEND.o w5 (.int .i64 0) (.int .i64 0) (.slice none 0 0) HG5.o HKR5.o;have HGE:=Za hge;have hrun:=HE0.o w5;clear hge hg0 HB2 HGOOD;go_wp2_with fail;exact bodyPost_ret (v:= .tuple #[.agg #[.int .i64 0,.int .i64 0,.slice none 0 0],.int .i64 g]) (by simp[results,Tryz.results5,go_sem,x0,x1,x2]) rfl (Z3e HR.o HGE.o)
 subst hg0;obtain⟨⟨hed,hab⟩,hrr⟩:=HGOOD.o (by simp) (by simp);have HAB:Hid (0≤a∧a≤b∧b≤100000):=hab;have hxc:X.x.cs=es.map CliM.x:=by rw[←HXS.o.2.2.2.2.1];rfl
 have HCF:Hid (∀c∈es,Z3n Z0r tk c.x=0):=fun c hc=>by have h:=Z5c hed c.x (by rw[hxc];exact List.mem_map.2 ⟨c,hc,rfl⟩);have h2:=HXS.o.2.1;rw[←h2];exact h
 have HEN:Hid (en≤300):=by have h:=(Z94 hed).l;rw[hxc,List.length_map]at h;have h2:=HXS.o.2.2.2.2.2;show _≤_;omega
 have HRR:Hid (r=mkE Z0r 1000000 ⟨rt,tk,Z34 ((es.map CliM.x).flatMap (Z9o a b))⟩):=by rw[←hxc,←HXS.o.1,←HXS.o.2.1];exact hrr
 have HROW:Hid (∀W,Gq w W→Rd W EA (es.flatMap CliM.cs)∧∀y∈es,CliOk W y):=fun W hW=>by have hok:=HOX.o.below hW;have h2:=HXS.o.2.2;exact⟨by have:=hok.cr;rw[h2.1,h2.2.2.1]at this;exact this,fun y hy=>hok.co y (by rw[h2.2.2.1];exact hy)⟩
 have HLE:Hid (es.length=en):=HXS.o.2.2.2.2.2;have HRT:Hid (Z0l rt∧Z0l tk):=by have h:=HOX.o;have h2:=HXS.o;exact⟨by rw[←h2.1];exact h.rate,by rw[←h2.2.1];exact h.tracks⟩
 have HCU:Hid (∀(k:Nat) (hk:k<es.length) (A:Option Addr) (W:World),Gq w W→Rd W A (ic [a,b])→Calls Tryz.prog 14 #[es[k].v,.slice A 2 2] W (CutR (Zet es[k].x [a,b]) W)):=fun k hk A W hW hr=>by have hm:=Zn hk;have hc:=HCF.o _ hm;have h2:(0≤es[k].ch∧es[k].ch<16)∧(0≤es[k].fr∧es[k].fr≤10000000000000)∧(0≤es[k].tr∧es[k].tr<tk)∧(0≤es[k].at_∧es[k].at_<100000)∧(1≤es[k].ln∧es[k].ln≤100000 - es[k].at_)∧es[k].fr+es[k].ln≤10000000000000:=(Z5o hc).r;refine cut_any es[k] A 2 2 [a,b] W ((HROW.o W hW).2 _ hm) (Z5d hc) (by omega) (by omega) hr rfl (by show 2≤1000;decide) (fun p hp=> ?_);have h3:=HAB.o;simp only[List.mem_cons,List.not_mem_nil,or_false]at hp;rcases hp with rfl|rfl<;>omega
 have HCB:Hid (∀(k:Nat) (hk:k<es.length),∀d∈Zet es[k].x [a,b],(0≤d.at_∧d.at_≤100000)∧0≤d.ln∧d.ln≤100000):=fun k hk=>cutK_bnd (HCF.o _ (Zn hk)) _
 have HFN:Hid (∀(zs:List CliM) (A:Option Addr) (c:Nat) (W W':World),zs.map CliM.x=(es.map CliM.x).flatMap (Z9o a b)→Z0y Z0r 1000000 ⟨rt,tk,Z34 (zs.map CliM.x)⟩=0→Gq w W'→KpT 39 W W'→KpT 61 W W'→RdT 39 W A ((Z1b CliM.x zs).flatMap CliM.cs)→(∀y∈zs,Z1z W y)→zs.length≤1000000→EdiR r w (.returned (.tuple #[.agg #[.int .i64 rt,.int .i64 tk,.slice A zs.length c],.int .i64 0])) W'):=fun zs A c W W' h1 h2 h4 h5 h6 h7 h8 h9=>by
  have hm:(Z1b CliM.x zs).map CliM.x=Z34 (zs.map CliM.x):=Z3c id CliM.x zs;have hl:(Z1b CliM.x zs).length=zs.length:=(Z2e CliM.x zs).length_eq;have hr:r=(⟨rt,tk,Z34 (zs.map CliM.x)⟩,0):=by rw[HRR.o,←h1];unfold mkE;rw[if_neg (by rw[h2];exact fun k=>k rfl)]
  refine⟨h4,⟨rt,tk,⟨A,c,Z1b CliM.x zs⟩⟩, ?_, ?_,HRT.o.1,HRT.o.2, ?_, ?_,fun z hz=> ?_⟩
  · rw[hr];show _=Ending.returned (.tuple #[.agg #[.int .i64 rt,.int .i64 tk,.slice A (Z1b CliM.x zs).length c],.int .i64 0]);rw[hl]
  · rw[hr,←hm];rfl
  · show(Z1b CliM.x zs).length≤_;omega
  · exact(h7.kp h5).rd
  · exact((h8 z ((Z2e CliM.x zs).mem_iff.1 hz)).kp h6).1
 obtain⟨ii,hii,hzi0,hzi1,hzi2⟩:=info_parts Z7j;have HII:=Za (And.intro hii (And.intro hzi0 (And.intro hzi1 hzi2)));obtain⟨gb,hgb⟩:∃k,w5.heap.size=k:=⟨_,rfl⟩;have HGB:Hid (w5.heap.size=gb):=hgb;have HKE5:=Za (Z0o HKE.o HGC5.o);have HKP5:=Za (Z0o HKP.o HGC5.o);have hke:=HKE5.o;have c0:w5.cell? ⟨b0,0,none⟩=some (.int .i64 rt):=hke.cell 0;have c1:w5.cell? ⟨b0,1,none⟩=some (.int .i64 tk):=hke.cell 1;obtain⟨w6,hw6⟩:∃W,W=w5.alloc (.cells #[.int .i64 rt,.int .i64 tk,.slice none 0 0] 24):=⟨_,rfl⟩;have HO6:Hid (OutS w5 gb rt tk [] none 0 w6):=by rw[hw6,←hgb];exact⟨Blk.new w5 _ _,World.ownsRow_nil _ _ _ _,fun y hy=>by simp at hy,(Gq.refl _).alloc _,by simp⟩
 have c2:w6.cell? ⟨b0,2,none⟩=some (.slice EA en ed):=(Z0o hke HO6.o.2.2.2.1).cell 2;have hrun:=run_build (P:=Tryz.prog) w5 24 _ _ (builtEd2 rt tk);have HW6:=Za hw6;clear hed hab hrr hxc hii hzi0 hzi1 hzi2 HGOOD HB2 HOX HXS HKE HKP HKR HE0 HCF hke hw6;go_upto_region 8 with(fail);rw[←HW6.o];try simp only[hgb]
 clear hgb c0 c1 hrun HW6;go_wp2_with fail
 go_loopw [33] (fun kv wq=>∃(k:Nat) (zs:List CliM) (AO:Option Addr) (cO:Nat),k≤en∧kv= .int .i64 (k:Int)∧Hid (zs.map CliM.x=((es.take k).map CliM.x).flatMap (Z9o a b)∧zs.length≤3*k)∧Hid (OutS w5 gb rt tk zs AO cO wq)) (fun kv _=>en - (intOf kv).toNat)
 case atStart=>exact⟨0,[],none,0,Nat.zero_le _,rfl,⟨rfl,Zh _⟩,HO6⟩
 case round=>
  obtain⟨k,zs,AO,cO,hk,rfl,HM,HO⟩:=hrel;clear HO6 c2 w6;by_cases hlt:k<en
  case neg=>
   have hd0:decide (k<en)=false:=(by simpa using hlt);have HZX:Hid (zs.map CliM.x=(es.map CliM.x).flatMap (Z9o a b)):=(by have h:=HM.o.1;rw[Zl (by have:=HLE.o;omega)]at h;exact h);have HZL:Hid (zs.length≤900):=(by have h1:=HM.o.2;have h2:=HEN.o;show _≤_;omega);have HORD:=Za (Z9k (gb+1) (gb+1) AO zs.length cO zs wr (Zh _) HO.o.2.1 rfl (by have:=HZL.o;omega));have v2:wr.cell? ⟨gb,2,none⟩=some (.slice AO zs.length cO):=HO.o.1.cell 2;obtain⟨zn,hzn⟩:∃m:Nat,zs.length=m:=⟨_,rfl⟩;have HZN:=Za hzn;rw[hzn]at HORD v2;clear hlt hzn;go_wp2_with fail;refine HORD.o.mono ?_;rintro e w8 ⟨rfl,hown8,hkp8,hbl8⟩;have HG58:Hid (Gq w5 w8):=Below.trans HO.o.2.2.2.1 (Below.mono hbl8 (by have:=HGB.o;omega));have HR8:Hid (RdT 39 w8 AO ((Z1b CliM.x zs).flatMap CliM.cs)):=RdT.of_own hown8;have HT8:Hid (∀y∈zs,Z1z w8 y):=fun y hy=>(HO.o.2.2.1 y hy).kp (hkp8 61 (by decide));have HB8:Hid (Blk w8 gb 24 [.int .i64 rt,.int .i64 tk,.slice AO zn cO]):=(by have h:=HO.o.1;rw[HZN.o]at h;exact(hbl8.block _ (by omega)).trans h);have HG8:Hid (Gq w w8):=HG5.o.trans HG58.o;have HKR8:=Za (Z0o HKR5.o HG58.o);obtain⟨ff,hff⟩:∃f,Z0y Z0r 1000000 ⟨rt,tk,Z34 (zs.map CliM.x)⟩=f:=⟨_,rfl⟩;have HFF:=Za hff;have HCK:Hid (Calls Tryz.prog 16 #[.agg #[.int .i64 rt,.int .i64 tk,.slice AO zn cO]] w8 fun e w'=>e= .returned (.tuple #[ckV ff (.agg #[.int .i64 rt,.int .i64 tk,.slice AO zn cO]),.int .i64 ff])∧Gq w8 w'):=(by have hm:(Z1b CliM.x zs).map CliM.x=Z34 (zs.map CliM.x):=Z3c id CliM.x zs;have hl:(Z1b CliM.x zs).length=zn:=(by rw[(Z2e CliM.x zs).length_eq];exact HZN.o);have:=Z9l ⟨rt,tk,⟨AO,cO,Z1b CliM.x zs⟩⟩ w8 ⟨HRT.o.1,HRT.o.2,by show(Z1b CliM.x zs).length≤_;have h1:=HZL.o;have h2:=HZN.o;omega,HR8.o.rd,fun z hz=>(HT8.o z ((Z2e CliM.x zs).mem_iff.1 hz)).1⟩;have he:EdtM.x ⟨rt,tk,⟨AO,cO,Z1b CliM.x zs⟩⟩=⟨rt,tk,Z34 (zs.map CliM.x)⟩:=(by show Edt.mk rt tk ((Z1b CliM.x zs).map CliM.x)=_;rw[hm]);rw[he,hff]at this;simp only[EdtM.v,Slc.v]at this;rw[hl]at this;exact this);have e0':w8.cell? ⟨gb,0,none⟩=some (.int .i64 rt):=HB8.o.cell 0;have e1':w8.cell? ⟨gb,1,none⟩=some (.int .i64 tk):=HB8.o.cell 1;have e2':w8.cell? ⟨gb,2,none⟩=some (.slice AO zn cO):=HB8.o.cell 2;clear hown8 hkp8 hbl8 v2 HORD hff;go_wp2_with fail;refine HCK.o.mono ?_;rintro e w9 ⟨rfl,hg9⟩;have HG9:Hid (Gq w w9):=HG8.o.trans hg9;have HKR9:=Za (Z0o HKR8.o hg9);have HR9:=Za (HR8.o.below hg9);have HT9:Hid (∀y∈zs,Z1z w9 y):=fun y hy=>(HT8.o y hy).gq hg9;obtain⟨k0,k1,k2,f0,f1,f2⟩:=HRB.o w9 HKR9.o;clear hg9 HCK e0' e1' e2';by_cases hf0:ff=0
   · subst hf0;rw[Zas];obtain⟨⟨x0,x1,x2⟩,hge,hkc,hkp⟩:=HEND.o w9 (.int .i64 rt) (.int .i64 tk) (.slice AO zn cO) HG9.o HKR9.o;have HFIN:=Za (HFN.o zs AO cO w9 _ HZX.o HFF.o hge hkc hkp HR9.o HT9.o (by have:=HZL.o;omega));rw[HZN.o]at HFIN;clear hge hkc hkp;go_wp2_with fail;exact bodyPost_ret (v:= .tuple #[.agg #[.int .i64 rt,.int .i64 tk,.slice AO zn cO],.int .i64 0]) (by simp[results,Tryz.results5,go_sem,x0,x1,x2]) rfl HFIN.o
   · rw[Z7i hf0];obtain⟨⟨x0,x1,x2⟩,hge, -, -⟩:=HEND.o w9 (.int .i64 0) (.int .i64 0) (.slice none 0 0) HG9.o HKR9.o;have HFIN:=Za (Z3e (r:=r) (f:=ff) (by rw[HRR.o,←HZX.o,Z7h (by rw[HFF.o];exact hf0),HFF.o]) hge);clear hge hf0;go_wp2_with fail;exact bodyPost_ret (v:= .tuple #[.agg #[.int .i64 0,.int .i64 0,.slice none 0 0],.int .i64 ff]) (by simp[results,Tryz.results5,go_sem,x0,x1,x2]) rfl HFIN.o
  have hd0:decide (k<en)=true:=by simpa using hlt
  have i0:(0:Int)≤(k:Int):=by omega
  have i1:(k:Int)<(en:Int):=by omega
  have hkl:k<es.length:=by have:=HLE.o;omega
  have hk9:k≤300:=by have:=HEN.o;omega
  have HGW:Hid (Gq w wr):=HG5.o.trans HO.o.2.2.2.1;obtain⟨bb,off,hA2,hbb,hcs⟩:=Z4b (HROW.o wr HGW.o).1 (show 0<es.length by omega);subst hA2;obtain⟨p0,p1,p2,p3,p4,p5,p6⟩:=hcs k hkl;have HTK:Hid (((es.take (k+1)).map CliM.x).flatMap (Z9o a b)=((es.take k).map CliM.x).flatMap (Z9o a b)++Z9o a b es[k].x):=by show _=_;rw[List.take_succ_eq_append_getElem hkl,List.map_append,List.flatMap_append];simp
  have HC1:=Za (HCU.o k hkl);have HCB1:=Za (HCB.o k hkl);have HEL:=Za (extK_len es[k].x a b);clear hcs hbb;obtain⟨Z,hZ⟩:∃Z,es[k]=Z:=⟨_,rfl⟩;rw[hZ]at p0 p1 p2 p3 p4 p5 p6 HTK HC1 HCB1 HEL;clear hZ;obtain⟨KL,hKL⟩:∃l,Zet Z.x [a,b]=l:=⟨_,rfl⟩;have HEK:Hid (Z9o a b Z.x=(KL.filter (Z3w a b)).map (Z4h (-a))):=by rw[←hKL];rfl
  have HKL:Hid (KL.length≤3):=by rw[←hKL];exact Z8r a b
  rw[hKL]at HC1 HCB1;rw[HEK.o]at HTK HEL;simp only[CliM.v,Slc.v]at HC1;obtain⟨cm,cc,cf,ct,ca,cl,⟨KA,kd,ks⟩⟩:=Z;obtain⟨kn,hkn⟩:∃n,ks.length=n:=⟨_,rfl⟩;simp only at p0 p1 p2 p3 p4 p5 p6 HC1;rw[hkn]at p6 HC1;clear hkn hKL HEK;obtain⟨wa,hwa⟩:∃wa,wa=wr.alloc (.cells #[.string cm,.int .i64 cc,.int .i64 cf,.int .i64 ct,.int .i64 ca,.int .i64 cl,.slice KA kn kd] 39):=⟨_,rfl⟩;have HKC:Hid (Blk wa wr.heap.size 39 [.string cm,.int .i64 cc,.int .i64 cf,.int .i64 ct,.int .i64 ca,.int .i64 cl,.slice KA kn kd]):=by rw[hwa];exact Blk.new wr _ _
  have HGA:Hid (Gq wr wa):=by rw[hwa];exact(Gq.refl _).alloc _
  have HOA:=Za (HO.o.gq HGA.o);have HWA:=Za hwa;clear hwa;go_upto_region 11 with(fail);rw[←HWA.o];clear p0 p1 p2 p3 p4 p5 p6 HWA;have hkp:=Z0o HKP5.o HOA.o.2.2.2.1;have g0:wa.cell? ⟨b0+1,0,none⟩=some (.int .i64 a):=hkp.cell 0;have g1:wa.cell? ⟨b0+1,1,none⟩=some (.int .i64 b):=hkp.cell 1;have d0:wa.cell? ⟨wr.heap.size,0,none⟩=some (.string cm):=HKC.o.cell 0;have d1:wa.cell? ⟨wr.heap.size,1,none⟩=some (.int .i64 cc):=HKC.o.cell 1;have d2:wa.cell? ⟨wr.heap.size,2,none⟩=some (.int .i64 cf):=HKC.o.cell 2;have d3:wa.cell? ⟨wr.heap.size,3,none⟩=some (.int .i64 ct):=HKC.o.cell 3;have d4:wa.cell? ⟨wr.heap.size,4,none⟩=some (.int .i64 ca):=HKC.o.cell 4;have d5:wa.cell? ⟨wr.heap.size,5,none⟩=some (.int .i64 cl):=HKC.o.cell 5;have d6:wa.cell? ⟨wr.heap.size,6,none⟩=some (.slice KA kn kd):=HKC.o.cell 6
  have HC2:=Za (HC1.o (some ⟨wa.heap.size,0,none⟩) (wa.alloc (.cells #[.int .i64 a,.int .i64 b] 3)) ((HG5.o.trans HOA.o.2.2.2.1).alloc _) (by
   have hb:Blk (wa.alloc (.cells #[.int .i64 a,.int .i64 b] 3)) wa.heap.size 3 [.int .i64 a,.int .i64 b]:=Blk.new wa _ _
   exact .inr ⟨wa.heap.size,0,rfl,by simp,fun j u hu=>by rw[Nat.zero_add];exact(hb.cell j).trans hu⟩))
  clear hkp HC1;go_wp2_with fail;refine HC2.o.mono ?_;rintro e w7 ⟨hg7,⟨SA,sc,ss⟩,rfl,hsm,hso,hst⟩;have HGA7:Hid (Gq wa w7):=((Gq.refl _).alloc _).trans hg7;have HO7:=Za (HOA.o.gq HGA7.o);have HS7:Hid (SidS gb ss SA sc (.slice AO zs.length cO) w7):=by refine⟨Z5e hso (by have:=HOA.o.2.2.2.2;simp;omega),fun b1 hb1 hb2=> ?_,hst⟩;have h1:=(hso.lt b1 hb1).1;have h2:=(HOA.o.2.1.lt b1 hb2).2;simp at h1;omega
  have HSM:Hid (ss.map CliM.x=KL):=hsm;simp only[Slc.v];clear hg7 hsm hso hst HC2 g0 g1 d0 d1 d2 d3 d4 d5 d6;go_wp2_with fail
  go_loopw [45] (fun jv wq=>∃(j:Nat) (ys:List CliM) (AP:Option Addr) (cP:Nat),j≤ss.length∧jv= .int .i64 (j:Int)∧Hid (ys.map CliM.x=zs.map CliM.x++(((ss.take j).map CliM.x).filter (Z3w a b)).map (Z4h (-a))∧ys.length≤3*(k+1))∧Hid (OutS w5 gb rt tk ys AP cP wq)∧Hid (SidS gb ss SA sc (.slice AP ys.length cP) wq)) (fun jv _=>ss.length - (intOf jv).toNat)
  case atStart=>exact⟨0,zs,AO,cO,Nat.zero_le _,rfl,⟨by simp,by have:=HM.o.2;omega⟩,HO7,HS7⟩
  case round=>
   clear HO7 HS7 HGA7 HOA HGA HKC HO HGW;obtain⟨j,ys,AP,cP,hj,rfl,HN,HO,HS⟩:=hrel;by_cases hjt:j<ss.length
   case neg=>
    have hd1:decide (j<ss.length)=false:=(by simpa using hjt);have HMN:Hid (ys.map CliM.x=((es.take (k+1)).map CliM.x).flatMap (Z9o a b)):=(by have h:=HN.o.1;rw[Zl (by omega),HSM.o,HM.o.1,←HTK.o]at h;exact h);clear hjt;go_wp2_with fail;go_roundw
    case rel=>exact⟨k+1,ys,AP,cP,hlt,by go_num,⟨HMN.o,HN.o.2⟩,HO⟩
    case measure=>simp[intOf];omega
   have hd1:decide (j<ss.length)=true:=(by simpa using hjt);have hj9:j≤3:=(by have h:=congrArg List.length HSM.o;rw[List.length_map]at h;have h2:=HKL.o;omega);have i2:(0:Int)≤(j:Int):=(by omega);have i3:(j:Int)<(ss.length:Int):=(by omega);obtain⟨bb,off,hA2,hbb,hcs⟩:=Z4b (Rd.of_own HS.o.1) (show 0<ss.length by omega);subst hA2;obtain⟨p0,p1,p2,p3,p4,p5,p6⟩:=hcs j hjt;have HCO:Hid (Z1z wr ss[j]):=HS.o.2.2 _ (Zn hjt);have HZB:=Za (HCB1.o ss[j].x (by rw[←HSM.o];exact List.mem_map.2 ⟨_,Zn hjt,rfl⟩));have HTJ:Hid ((ss.take (j+1)).map CliM.x=(ss.take j).map CliM.x++ [ss[j].x]):=(by show _=_;rw[List.take_succ_eq_append_getElem hjt,List.map_append];rfl);have HJL:Hid ((((ss.take (j+1)).map CliM.x).filter (Z3w a b)).length≤3):=(by have h:=HEL.o;rw[List.length_map,←HSM.o]at h;refine Nat.le_trans ?_ h;rw[←List.take_append_drop (j+1) ss,List.map_append,List.filter_append,Zj,List.take_append_of_le_length (by rw[List.length_take];omega),List.take_take,Nat.min_self];omega);clear hcs hbb;obtain⟨Y,hY⟩:∃X,ss[j]=X:=⟨_,rfl⟩;rw[hY]at p0 p1 p2 p3 p4 p5 p6 HCO HZB HTJ;clear hY;obtain⟨zm,hzm⟩:∃z:CliM,z=⟨Y.m,Y.ch,Y.fr,Y.tr,Y.at_ - a,Y.ln,Y.e⟩:=⟨_,rfl⟩;have HZY:Hid ((0≤Y.at_∧Y.at_≤100000)∧0≤Y.ln∧Y.ln≤100000):=HZB.o;have HZM:Hid (Z1z wr zm):=(by rw[hzm];have h:=HCO.o;exact⟨⟨h.1.m,h.1.ch,h.1.fr,h.1.tr,by have h1:=HZY.o;have h2:=HAB.o;unfold Z0l;show _≤Y.at_ - a∧Y.at_ - a≤_;omega,h.1.ln,h.1.el,h.1.er,h.1.eo⟩,h.2⟩);have HZXM:Hid (zm.x=Z4h (-a) Y.x):=(by rw[hzm];rfl);have HIN:Hid (a≤Y.at_→Y.at_+Y.ln≤b→(((ss.take (j+1)).map CliM.x).filter (Z3w a b)).map (Z4h (-a))=(((ss.take j).map CliM.x).filter (Z3w a b)).map (Z4h (-a))++ [zm.x]):=fun h1 h2=>(by rw[HTJ.o,List.filter_append,List.map_append,List.filter_cons_of_pos (by unfold Z3w;exact decide_eq_true ⟨h1,h2⟩),HZXM.o];rfl);have HOUT:Hid (¬(a≤Y.at_∧Y.at_+Y.ln≤b)→(((ss.take (j+1)).map CliM.x).filter (Z3w a b)).map (Z4h (-a))=(((ss.take j).map CliM.x).filter (Z3w a b)).map (Z4h (-a))):=fun h=>(by rw[HTJ.o,List.filter_append,List.map_append,List.filter_cons_of_neg (by unfold Z3w;rw[decide_eq_true_eq];exact h)];simp);obtain⟨xm,xc,xf,xt,xa,xl,⟨EC,cd,cs⟩⟩:=Y;obtain⟨cn,hcn⟩:∃n,cs.length=n:=⟨_,rfl⟩;have HZC2:Hid (zm.cs= [.string xm,.int .i64 xc,.int .i64 xf,.int .i64 xt,.int .i64 (xa - a),.int .i64 xl,.slice EC cn cd]):=(by rw[hzm,←hcn];rfl);simp only at p0 p1 p2 p3 p4 p5 p6 HIN HOUT HZY;rw[hcn]at p6;clear hzm hcn HCO HZB HTJ HZXM;have hz1:=HZY.o;have hz2:=HAB.o;have hwe:IntKind.i64.wrap (xa+xl)=xa+xl:=IntWalk.i64_in _ (by omega);have hwm:IntKind.i64.wrap (xa - a)=xa - a:=IntWalk.i64_in _ (by omega);clear hz1 hz2;obtain⟨wa,hwa⟩:∃wa,wa=wr.alloc (.cells #[.string xm,.int .i64 xc,.int .i64 xf,.int .i64 xt,.int .i64 xa,.int .i64 xl,.slice EC cn cd] 39):=⟨_,rfl⟩;have HKC:Hid (Blk wa wr.heap.size 39 [.string xm,.int .i64 xc,.int .i64 xf,.int .i64 xt,.int .i64 xa,.int .i64 xl,.slice EC cn cd]):=(by rw[hwa];exact Blk.new wr _ _);have HGA:Hid (Gq wr wa):=(by rw[hwa];exact(Gq.refl _).alloc _);have HOA:=Za (HO.o.gq HGA.o);have HSA:=Za (HS.o.gq HGA.o);have hkp:=Z0o HKP5.o HOA.o.2.2.2.1;have a4:wa.cell? ⟨wr.heap.size,4,none⟩=some (.int .i64 xa):=HKC.o.cell 4;have a5:wa.cell? ⟨wr.heap.size,5,none⟩=some (.int .i64 xl):=HKC.o.cell 5;have f4:=HKC.o.frozen 4;have g0:wa.cell? ⟨b0+1,0,none⟩=some (.int .i64 a):=hkp.cell 0;have g1:wa.cell? ⟨b0+1,1,none⟩=some (.int .i64 b):=hkp.cell 1;have HNL:Hid (ys.map CliM.x=zs.map CliM.x++(((ss.take j).map CliM.x).filter (Z3w a b)).map (Z4h (-a))∧ys.length≤3*(k+1)):=HN.o;have HWA:=Za hwa;clear hwa hkp HN;go_upto_region 14 with(fail);rw[←HWA.o];clear p0 p1 p2 p3 p4 p5 p6;by_cases h1:a≤xa
   case neg=>
    have hd2:decide (a≤xa)=false:=decide_eq_false h1;have hd3:decide (xa≥a)=false:=decide_eq_false h1;have HN:=Za (HOUT.o (fun h=>h1 h.1));clear h1 HIN HOUT HWA;go_wp2_with fail;go_roundw
    case rel=>exact⟨j+1,ys,AP,cP,hjt,by go_num,⟨by rw[HN.o];exact HNL.o.1,HNL.o.2⟩,HOA,HSA⟩
    case measure=>simp[intOf];omega
   have hd2:decide (a≤xa)=true:=decide_eq_true h1;have hd3:decide (xa≥a)=true:=decide_eq_true h1;by_cases h2:xa+xl≤b
   case neg=>
    have hd4:decide (xa+xl≤b)=false:=decide_eq_false h2;have HN:=Za (HOUT.o (fun h=>h2 h.2));clear h1 h2 HIN HOUT HWA;go_wp2_with fail;go_roundw
    case rel=>exact⟨j+1,ys,AP,cP,hjt,by go_num,⟨by rw[HN.o];exact HNL.o.1,HNL.o.2⟩,HOA,HSA⟩
    case measure=>simp[intOf];omega
   have hd4:decide (xa+xl≤b)=true:=decide_eq_true h2;have HN:=Za (HIN.o h1 h2);obtain⟨wd,hwd⟩:∃wd,wd=wa.setCell ⟨wr.heap.size,4,none⟩ (.int .i64 (xa - a)):=⟨_,rfl⟩;have HKD:Hid (Blk wd wr.heap.size 39 [.string xm,.int .i64 xc,.int .i64 xf,.int .i64 xt,.int .i64 (xa - a),.int .i64 xl,.slice EC cn cd]):=(by rw[hwd];exact HKC.o.set_ 4 (.int .i64 (xa - a)));have HGD:Hid (Gq wr wd):=(by rw[hwd];exact HGA.o.setCell (p:=⟨wr.heap.size,4,none⟩) (Zh _) _);have HO8:=Za (HO.o.gq HGD.o);have HS8:=Za (HS.o.gq HGD.o);have HZ8:Hid (Z1z wd zm):=HZM.o.gq HGD.o;have b0:wd.cell? ⟨wr.heap.size,0,none⟩=some (.string xm):=HKD.o.cell 0;have b1:wd.cell? ⟨wr.heap.size,1,none⟩=some (.int .i64 xc):=HKD.o.cell 1;have b2:wd.cell? ⟨wr.heap.size,2,none⟩=some (.int .i64 xf):=HKD.o.cell 2;have b3:wd.cell? ⟨wr.heap.size,3,none⟩=some (.int .i64 xt):=HKD.o.cell 3;have b4:wd.cell? ⟨wr.heap.size,4,none⟩=some (.int .i64 (xa - a)):=HKD.o.cell 4;have b5:wd.cell? ⟨wr.heap.size,5,none⟩=some (.int .i64 xl):=HKD.o.cell 5;have b6:wd.cell? ⟨wr.heap.size,6,none⟩=some (.slice EC cn cd):=HKD.o.cell 6;have v2:wd.cell? ⟨gb,2,none⟩=some (.slice AP ys.length cP):=HO8.o.1.cell 2;have HYN:Hid ((ys++ [zm]).map CliM.x=zs.map CliM.x++(((ss.take (j+1)).map CliM.x).filter (Z3w a b)).map (Z4h (-a))∧(ys++ [zm]).length≤3*(k+1)):=(by have h:(ys++ [zm]).map CliM.x=zs.map CliM.x++(((ss.take (j+1)).map CliM.x).filter (Z3w a b)).map (Z4h (-a)):=(by rw[List.map_append,HNL.o.1,HN.o,List.append_assoc];rfl);refine⟨h, ?_⟩;have h2:=congrArg List.length h;simp only[List.length_map,Zj,List.length_cons,List.length_nil]at h2⊢;have h3:=HJL.o;have h4:=HM.o.2;omega);have hy8:ys.length≤1200:=(by have h1:=HNL.o.2;have h2:=HEN.o;omega);have hb8:gb+1≤wd.heap.size:=HO8.o.2.2.2.2;have HKA9:Hid (∀(w9:World) (g9 cap9:Nat),w9.ownsRow (gb+1) 39 7 (.slice (some ⟨g9,0,none⟩) (ys.length+1) cap9) (ys.length+1) (ys.flatMap CliM.cs++zm.cs)→(wd.alloc (.cells #[.string xm,.int .i64 xc,.int .i64 xf,.int .i64 xt,.int .i64 (xa - a),.int .i64 xl,.slice EC cn cd] 39)).grownBy w9 (Value.slice AP ys.length cP).ownBlock→w9.cell? ⟨gb,2,none⟩=some (.slice AP ys.length cP)∧w9.frozen? ⟨gb,2,none⟩=false∧∀(_:(Value.slice AP ys.length cP).ownBlock=some g9∨g9=(wd.alloc (.cells #[.string xm,.int .i64 xc,.int .i64 xf,.int .i64 xt,.int .i64 (xa - a),.int .i64 xl,.slice EC cn cd] 39)).heap.size),OutS w5 gb rt tk (ys++ [zm]) (some ⟨g9,0,none⟩) cap9 (w9.setCell ⟨gb,2,none⟩ (.slice (some ⟨g9,0,none⟩) (ys.length+1) cap9))∧SidS gb ss (some ⟨bb,off,none⟩) sc (.slice (some ⟨g9,0,none⟩) (ys++ [zm]).length cap9) (w9.setCell ⟨gb,2,none⟩ (.slice (some ⟨g9,0,none⟩) (ys.length+1) cap9))):=fun w9 g9 cap9 ho hgr=>(by obtain⟨k1,k2⟩:=out_app HGB.o HO8.o HZ8.o ho hgr;exact⟨k1.cell 2,k1.frozen 2,fun hat=>⟨k2,sid_app HO8.o HS8.o k1 hgr hat⟩⟩);have HWD:=Za hwd;clear hwd h1 h2 HIN HOUT HWA HOA HSA HZM HN HNL;go_upto_region 16 with(fail);rw[←HWD.o];clear a4 a5 f4 g0 g1;go_wp2_with (at_builtin; (refine wpList_append_lies _ rfl _ _ 22 rfl (gb+1) 39 ii _ 7 80 Tryz.underlying22 HII.o.1 HII.o.2.1 HII.o.2.2.1 HII.o.2.2.2 rfl (by decide) _ _ _ rfl (HO8.o.2.1.alloc _) ⟨wd.heap.size,0,none⟩ 1 1 [.string xm,.int .i64 xc,.int .i64 xf,.int .i64 xt,.int .i64 (xa - a),.int .i64 xl,.slice EC cn cd] (by rfl) (by rfl) (World.news_of_block (cs:= #[.string xm,.int .i64 xc,.int .i64 xf,.int .i64 xt,.int .i64 (xa - a),.int .i64 xl,.slice EC cn cd]) (t:=39) (fr:=(0,0)) (by exact heap_alloc_new wd _)) (by simp[Value.oneCell']) (by decide) (by unfold maxLen;omega) (by omega) (by simp;omega) _ rfl ?_);intro g9 cap9 w9 hown9 hgrow9 hat9 hg9;rw[←HZC2.o]at hown9;obtain⟨hv9,hf9,hn9⟩:=HKA9.o w9 g9 cap9 hown9 hgrow9);have hfin9:=hn9 hat9;obtain⟨w10,hw10⟩:∃w10,w9.setCell ⟨gb,2,none⟩ (.slice (some ⟨g9,0,none⟩) (ys.length+1) cap9)=w10:=⟨_,rfl⟩;rw[hw10]at hfin9;have HFI9:=Za hfin9;clear hfin9 hn9 hown9 hgrow9 hat9 hg9;go_wp2_with fail;rw[hw10];go_roundw
   case rel=>exact⟨j+1,ys++ [zm],_,_,hjt,by go_num,HYN,HFI9.o.1,HFI9.o.2⟩
   case measure=>simp[intOf];omega
end Go.Proofs.YtcemlhbfemenpaaGreatDoor
