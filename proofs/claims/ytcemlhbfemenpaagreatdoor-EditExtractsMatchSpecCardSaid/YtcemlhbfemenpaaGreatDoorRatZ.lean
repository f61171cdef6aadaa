/- Several texts laid into one: Results in boxes; the contracts of num.Parse, num.From; The contract of num.From; The contracts of (num.Rat).Lowest, clock.digits; The contract of clock.CheckRatio; -/
import Derived.Test.YtcemlhbfemenpaaGreatDoorRatY
import Derived.Test.YtcemlhbfemenpaaGreatDoorShCut
set_option maxHeartbeats 8000000
set_option maxRecDepth 100000
namespace Go.Proofs.YtcemlhbfemenpaaGreatDoor
open Go.RowKit Go.Dw
attribute [local go_sem ↓] Go.wp_at_zero Go.wp_at_succ
structure Box (w w1:World)(g:Nat)(t:TypeId)(cs:List Value):Prop where
 bel:Below w.heap.size w w1
 le:w.heap.size≤g
 blk:Blk w1 g t cs
 no:∀c∈cs,∀m,c≠ .int .u32 m
section
variable {w w1 W:World}{g:Nat}{t:TypeId}
theorem Box.at_ {cs:List Value}(h:Box w w1 g t cs)(hb:Below w1.heap.size w1 W)(i:Nat):W.cell? ⟨g,i,none⟩=cs[i]? ∧W.frozen? ⟨g,i,none⟩=false:=by
 have c1:Blk W g t cs:=(hb.block _ h.blk.lt).trans h.blk;exact⟨c1.cell i,c1.frozen i⟩
theorem Box.store2 {c0 c1:Value}(h:Box w w1 g t [c0,c1])(hb:Below w1.heap.size w1 W)(hw:w.heap.size≤w1.heap.size)(x y:Value):
  Below w.heap.size w ((W.setCell ⟨g,0,none⟩ x).setCell ⟨g,1,none⟩ y)∧(((W.setCell ⟨g,0,none⟩ x).setCell ⟨g,1,none⟩ y).cell? ⟨g,0,none⟩=some x∧((W.setCell ⟨g,0,none⟩ x).setCell ⟨g,1,none⟩ y).cell? ⟨g,1,none⟩=some y)∧
  ∀v n,Z09 W v n→Z09 ((W.setCell ⟨g,0,none⟩ x).setCell ⟨g,1,none⟩ y) v n:=by
 have h1:Below w.heap.size w W:=h.bel.trans (hb.mono hw);have k1:Blk W g t [c0,c1]:=(hb.block _ h.blk.lt).trans h.blk;have k2:=(k1.set_ 0 x).set_ 1 y;refine⟨(h1.setCell (p:=⟨g,0,none⟩) h.le _).setCell (p:=⟨g,1,none⟩) h.le _,⟨k2.cell 0,k2.cell 1⟩,fun v n hv=> ?_⟩;refine Z09.other k1 h.no (by simp[World.setCell]) (fun b hb=> ?_) hv;rw[Below.heap_setCell _ ⟨g,1,none⟩ _ b hb,Below.heap_setCell _ ⟨g,0,none⟩ _ b hb]
theorem Box.store3 {c0 c1 c2:Value}(h:Box w w1 g t [c0,c1,c2])(hb:Below w1.heap.size w1 W)(hw:w.heap.size≤w1.heap.size)(x y z:Value):
  Below w.heap.size w (((W.setCell ⟨g,0,none⟩ x).setCell ⟨g,1,none⟩ y).setCell ⟨g,2,none⟩ z)∧
  ((((W.setCell ⟨g,0,none⟩ x).setCell ⟨g,1,none⟩ y).setCell ⟨g,2,none⟩ z).cell? ⟨g,0,none⟩=some x∧(((W.setCell ⟨g,0,none⟩ x).setCell ⟨g,1,none⟩ y).setCell ⟨g,2,none⟩ z).cell? ⟨g,1,none⟩=some y∧(((W.setCell ⟨g,0,none⟩ x).setCell ⟨g,1,none⟩ y).setCell ⟨g,2,none⟩ z).cell? ⟨g,2,none⟩=some z)∧
  ∀v n,Z09 W v n→Z09 (((W.setCell ⟨g,0,none⟩ x).setCell ⟨g,1,none⟩ y).setCell ⟨g,2,none⟩ z) v n:=by
 have h1:Below w.heap.size w W:=h.bel.trans (hb.mono hw);have k1:Blk W g t [c0,c1,c2]:=(hb.block _ h.blk.lt).trans h.blk;have k2:=((k1.set_ 0 x).set_ 1 y).set_ 2 z;refine⟨((h1.setCell (p:=⟨g,0,none⟩) h.le _).setCell (p:=⟨g,1,none⟩) h.le _).setCell (p:=⟨g,2,none⟩) h.le _,⟨k2.cell 0,k2.cell 1,k2.cell 2⟩,fun v n hv=> ?_⟩;refine Z09.other k1 h.no (by simp[World.setCell]) (fun b hb=> ?_) hv;rw[Below.heap_setCell _ ⟨g,2,none⟩ _ b hb,Below.heap_setCell _ ⟨g,1,none⟩ _ b hb,Below.heap_setCell _ ⟨g,0,none⟩ _ b hb]
end
theorem Zdm (s:ByteArray)(w:World)(hs:s.size≤1099511627776)(hd:(boT s).all isD=true):
  Calls Tryz.prog 124 #[.string s] w (Z6i (Z6x s) w):=by
 have HCP:Hid (∀W,Calls Tryz.prog 82 #[.string s,.string ⟨#[45]⟩] W fun e w'=>e= .returned (.tuple #[.string ⟨(boT s).toArray⟩,.bool (sgT s)])∧w'=W):=fun W=>Any.strings_CutPrefix Tryz.lays103 s ⟨#[45]⟩ W;have hbz:(⟨(boT s).toArray⟩:ByteArray).size=(boT s).length:=by rw[←ba_len]
 have HNT:Hid (∀W,Calls Tryz.prog 125 #[.string ⟨(boT s).toArray⟩] W (Zdh (Z0e (boT s)) W)):=fun W=>
  Z5u ⟨(boT s).toArray⟩ W (by rw[hbz];have:=Zcs s;omega) (by simpa using hd)
 have HZ:=Za (And.intro (Z2t s) (Z9z s));obtain⟨w1,hw1⟩:∃w1,w1=w.alloc (.cells #[.bool false,.slice none 0 0] 114):=⟨_,rfl⟩;have HB:Hid (Box w w1 w.heap.size 114 [.bool false,.slice none 0 0]):=by rw[hw1];exact⟨(Zm _ _).alloc (Zh _) _,Zh _,Blk.new w _ _,fun c hc m=>by simp at hc;rcases hc with rfl|rfl<;>simp⟩
 have HW1:=Za hw1;clear hw1 hbz hd hs;generalize sgT s=sg at*;generalize (⟨(boT s).toArray⟩:ByteArray)=bs at*;generalize Z0e (boT s)=n at*;go_enter Tryz.func124,Tryz.ntmps124;go_upto_region 1 with(fail);rw[←HW1.o];go_wp2_with fail;refine(HCP.o _).mono ?_;rintro e w2 ⟨rfl,rfl⟩;go_wp2_with fail;refine(HNT.o _).mono ?_;rintro e w3 ⟨v,rfl,hv,hb⟩;obtain⟨A,c,L,rfl,hL,_,_⟩:=Z0k hv;have HV:=Za hv;have HB3:=Za hb;obtain⟨d0,f0⟩:=HB.o.at_ hb 0;obtain⟨d1,f1⟩:=HB.o.at_ hb 1;have e0:w3.cell? ⟨w.heap.size,0,none⟩=some (.bool false):=d0;have e1:w3.cell? ⟨w.heap.size,1,none⟩=some (.slice none 0 0):=d1;clear d0 d1 hv hb
 have HSG:Hid (decide (0<L)=decide (0<n)):=by
  show _=_;by_cases h:n=0
  · have:=hL.2 h;subst this h;rfl
  · have:¬L=0:=fun e=>h (hL.1 e);rw[decide_eq_decide];omega
 clear hL;obtain⟨pb,hpb⟩:∃v,decide (0<n)=v:=⟨_,rfl⟩;rw[hpb]at HSG HZ;clear hpb;cases sg
 ·
  go_wp2_with fail;obtain⟨k1,⟨k2,k3⟩,k4⟩:=HB.o.store2 HB3.o HB.o.bel.size (.bool false) (.slice A L c);refine bodyPost_ret (v:= .agg #[.bool false,.slice A L c]) (by simp[results,Tryz.results124,go_sem,k2,k3]) rfl ⟨_,rfl,⟨.slice A L c, ?_, ?_⟩,k1⟩
  · rw[HZ.o.2];rfl
  · rw[HZ.o.1];exact k4 _ _ HV.o
 ·
  have hlt:=HSG.o;go_wp2_with fail;obtain⟨k1,⟨k2,k3⟩,k4⟩:=HB.o.store2 HB3.o HB.o.bel.size (.bool pb) (.slice A L c);refine bodyPost_ret (v:= .agg #[.bool pb,.slice A L c]) (by simp[results,Tryz.results124,go_sem,k2,k3]) rfl ⟨_,rfl,⟨.slice A L c, ?_, ?_⟩,k1⟩
  · rw[HZ.o.2];simp
  · rw[HZ.o.1];exact k4 _ _ HV.o
def Gw (w W:World):Prop:=Below w.heap.size w W
theorem Gw.refl (w:World):Gw w w:=Zm _ _
theorem Gw.step {w W W':World}(h:Gw w W)(k:Below W.heap.size W W'):Gw w W':=Below.trans h (k.mono (Below.size h))
theorem Gw.drew {w W:World}(h:Gw w W):Gw w W.drew:=below_drewN h 1
def Gv (B:Nat)(w W:World):Prop:=Below B w W
theorem Gw.gv {w W:World}(h:Gw w W){B:Nat}(hB:B≤w.heap.size):Gv B w W:=Below.mono h hB
theorem Gv.set {B:Nat}{w W:World}(h:Gv B w W)(p:Addr)(hp:B≤p.block)(v:Value):Gv B w (W.setCell p v):=Below.setCell h hp v
theorem Gv.drew {B:Nat}{w W:World}(h:Gv B w W):Gv B w W.drew:=below_drewN h 1
theorem Z01 {w:World}{v:Value}{n:Nat}(h:Z09 w v n):∃A L c,v= .slice A L c:=by
 obtain⟨A,c,l,rfl,_⟩:=h;exact⟨A,_,c,rfl⟩
theorem later {w w':World}{v:Value}{n:Nat}(h:Hid (Z09 w v n))(k:Hid (Below w.heap.size w w')):Z09 w' v n:=Z09.below h.o k.o
theorem Zab (num den:ByteArray)(w:World)(hs:num.size≤1099511627776)(hs2:den.size≤1099511627776)(hd:(boT num).all isD=true)(hd2:den.data.toList.all isD=true)(hdp:0<Z0e den.data.toList):
  Calls Tryz.prog 84 #[.agg #[.string num,.string den]] w fun e w'=>∃v,e= .returned v∧Zcj w' v (Z6x num) (Z0e den.data.toList)∧Below w.heap.size w w':=by
 obtain⟨w1,hw1⟩:∃w1,w1=(w.alloc (.cells #[.string num,.string den] 59)).alloc (.cells #[.bool false,.slice none 0 0,.slice none 0 0] 116):=⟨_,rfl⟩;have hz1:w1.heap.size=w.heap.size+2:=by rw[hw1];simp
 have HB:Hid (Box w w1 (w.heap.size+1) 116 [.bool false,.slice none 0 0,.slice none 0 0]):=by rw[hw1];refine⟨((Zm _ _).alloc (Zh _) _).alloc (by simp) _,by omega, ?_,fun c hc m=>by simp at hc;rcases hc with rfl|rfl<;>simp⟩;have:=Blk.new (w.alloc (.cells #[.string num,.string den] 59)) 116 [.bool false,.slice none 0 0,.slice none 0 0];simpa using this
 have HA:Hid (Blk w1 w.heap.size 59 [.string num,.string den]):=by rw[hw1];exact(Below.heap_alloc _ _ _ (by simp)).trans (Blk.new w _ [.string num,.string den])
 have HS:Hid (∀W,Gv (w.heap.size+1) w1 W→W.cell? ⟨w.heap.size,0,none⟩=some (.string num)∧W.cell? ⟨w.heap.size,1,none⟩=some (.string den)∧Gv (w.heap.size+1) w1 W):=fun W hW=>by have c0:Blk W w.heap.size 59 [.string num,.string den]:=(Below.block hW _ (by omega)).trans HA.o;exact⟨c0.cell 0,c0.cell 1,hW⟩
 have HPA:Hid (∀W,Gw w1 W→Calls Tryz.prog 124 #[.string num] W fun e W'=>∃A L c,e= .returned (.agg #[.bool (decide (Z6x num<0)),.slice A L c])∧Hid (Z09 W' (.slice A L c) (Z6x num).natAbs)∧Hid (Below W.heap.size W W')∧Gw w1 W'):=fun W hW=>
  (Zdm num W hs hd).mono fun e W' ⟨v,h1,⟨u,h2,h3⟩,h4⟩=>by obtain⟨A,L,c,rfl⟩:=Z01 h3;exact⟨A,L,c,by rw[h1,h2],h3,h4,hW.step h4⟩
 have HNT:Hid (∀W,Gw w1 W→Calls Tryz.prog 125 #[.string den] W fun e W'=>∃A L c,e= .returned (.slice A L c)∧Hid (Z09 W' (.slice A L c) (Z0e den.data.toList))∧Hid (Below W.heap.size W W')∧Gw w1 W'):=fun W hW=>
  (Z5u den W hs2 hd2).mono fun e W' ⟨v,h1,h3,h4⟩=>by obtain⟨A,L,c,rfl⟩:=Z01 h3;exact⟨A,L,c,h1,h3,h4,hW.step h4⟩
 have HCE:Hid (∀W,Gw w1 W→W.cell? ⟨w.heap.size+1,0,none⟩=some (.bool false)∧W.cell? ⟨w.heap.size+1,1,none⟩=some (.slice none 0 0)∧W.cell? ⟨w.heap.size+1,2,none⟩=some (.slice none 0 0)∧W.frozen? ⟨w.heap.size+1,0,none⟩=false∧W.frozen? ⟨w.heap.size+1,1,none⟩=false∧W.frozen? ⟨w.heap.size+1,2,none⟩=false):=fun W hW=>
  ⟨(HB.o.at_ hW 0).1,(HB.o.at_ hW 1).1,(HB.o.at_ hW 2).1,(HB.o.at_ hW 0).2,(HB.o.at_ hW 1).2,(HB.o.at_ hW 2).2⟩
 have hz2:w.heap.size+1≤w1.heap.size:=by omega
 have hqB:Gw w1 w1:=Gw.refl _;have hBD:Gw w1 w1.drew:=(Gw.refl _).drew;have HW1:=Za hw1;have hne:w.heap.size≠w.heap.size+1:=by omega
 clear hw1 HA;generalize Z0e den.data.toList=d at*;generalize Z6x num=z at*;obtain⟨sb,hsb⟩:∃v,decide (z<0)=v:=⟨_,rfl⟩;rw[hsb]at HPA;have HSB:=Za hsb;clear hsb hd hd2;go_enter Tryz.func84,Tryz.ntmps84;go_upto_region 1 with(fail);rw[←HW1.o]
 go_region_held3 (fun W=>W.cell? ⟨w.heap.size,0,none⟩=some (.string num)∧W.cell? ⟨w.heap.size,1,none⟩=some (.string den)∧Gv (w.heap.size+1) w1 W)
  (first|exact HS.o _ (hBD.gv hz2)|exact HS.o _ (hqB.gv hz2)|exact HS.o _ ((((hqB.gv hz2).set ⟨w.heap.size+1,0,none⟩ (Zh _) _).set ⟨w.heap.size+1,1,none⟩ (Zh _) _).set ⟨w.heap.size+1,2,none⟩ (Zh _) _))
  (first|(go_at_call 124; (with_reducible refine(HPA.o _ (by assumption)).mono ?_);rintro e w' ⟨A,L,c,rfl,hv,hb,hqB⟩;obtain⟨q0,q1,q2,q3,q4,q5⟩:=HCE.o _ hqB)|(go_at_call 125; (with_reducible refine(HNT.o _ (by assumption)).mono ?_);rintro e w' ⟨B,M,c2,rfl,hv,hb,hqB⟩;obtain⟨q0,q1,q2,q3,q4,q5⟩:=HCE.o _ hqB))
 all_goals
  have hA:Z09 w' (.slice A L c) z.natAbs:=by
   first
    |exact Hid.o (show Hid (Z09 w' (.slice A L c) z.natAbs) by assumption)
    |exact later (w':=w') (by assumption) (by assumption)
  have hC:Z09 w' (.slice B M c2) d:=by
   first
    |exact Hid.o (show Hid (Z09 w' (.slice B M c2) d) by assumption)
    |exact later (w':=w') (by assumption) (by assumption)
  obtain⟨k1,⟨k2,k3,k4⟩,k5⟩:=HB.o.store3 (W:=w') hqB HB.o.bel.size (.bool sb) (.slice A L c) (.slice B M c2);go_wp2_with fail;refine bodyPost_ret (v:= .agg #[.bool sb,.slice A L c,.slice B M c2]) (by simp[results,Tryz.results84,go_sem,k2,k3,k4]) rfl ⟨_,rfl,⟨.slice A L c,.slice B M c2, ?_,k5 _ _ hA,k5 _ _ hC,hdp⟩,k1⟩;rw[HSB.o]
theorem Zbo (v:Value)(z:Int)(d:Nat)(w:World)(h:Zcj w v z d)(k:Nat)(hk:Lim k z.natAbs)(gk:Lim k d)(hk2:k≤549755813888):
  Calls Tryz.prog 85 #[v] w fun e w'=>e= .returned (.bool (decide (Nat.gcd z.natAbs d=1)))∧Below w.heap.size w w':=by
 obtain⟨u,b,rfl,hu,hb,hd⟩:=h;obtain⟨A,L,c,rfl⟩:=Z01 hu;obtain⟨B,M,c2,rfl⟩:=Z01 hb;obtain⟨sb,hsb⟩:∃v,decide (z<0)=v:=⟨_,rfl⟩;have hkd:Lim k (mkRat z d).den:=by rw[Z7u hd];exact gk.le (Nat.div_le_self _ _)
 have HLO:=Za (mk_low (z:=z) hd);obtain⟨w1,hw1⟩:∃w1,w1=w.alloc (.cells #[.bool sb,.slice A L c,.slice B M c2] 116):=⟨_,rfl⟩;have HB:Hid (Below w.heap.size w w1):=by rw[hw1];exact(Zm _ _).alloc (Zh _) _
 have HBK:Hid (Blk w1 w.heap.size 116 [.bool sb,.slice A L c,.slice B M c2]):=by rw[hw1];exact Blk.new w _ _
 have HS:Hid (∀W,Gw w1 W→W.cell? ⟨w.heap.size,0,none⟩=some (.bool sb)∧W.cell? ⟨w.heap.size,1,none⟩=some (.slice A L c)∧W.cell? ⟨w.heap.size,2,none⟩=some (.slice B M c2)∧Gw w1 W):=fun W hW=>by have c0:Blk W w.heap.size 116 [.bool sb,.slice A L c,.slice B M c2]:=(Below.block hW _ HBK.o.lt).trans HBK.o;exact⟨c0.cell 0,c0.cell 1,c0.cell 2,hW⟩
 have HOV:Hid (∀W,Gw w1 W→Calls Tryz.prog 116 #[.agg #[.bool sb,.slice A L c],.slice B M c2] W fun e W'=>∃s2 A1 L1 c1 A2 L2 c2,e= .returned (.agg #[.bool s2,.slice A1 L1 c1,.slice A2 L2 c2])∧Hid (Z09 W' (.slice A2 L2 c2) (mkRat z d).den)∧Gw w1 W'):=fun W hW=>
  (Z47 _ _ z d W ⟨.slice A L c,by rw[hsb],(hu.below HB.o).below hW⟩ ((hb.below HB.o).below hW) k hk gk hk2 hd).mono fun e W' ⟨v,h1,⟨u2,b2,h2,h3,h4,h5⟩,h6⟩=>by obtain⟨A2,L2,c2,rfl⟩:=Z01 h4;obtain⟨A1,L1,c1,rfl⟩:=Z01 h3;exact⟨_,A1,L1,c1,A2,L2,c2,by rw[h1,h2],h4,hW.step h6⟩
 have HCM:Hid (∀W A2 L2 c3,Gw w1 W→Z09 W (.slice A2 L2 c3) (mkRat z d).den→Calls Tryz.prog 126 #[.slice A2 L2 c3,.slice B M c2] W fun e W'=>e= .returned (.int .i64 (Z27 (mkRat z d).den d))∧Gw w1 W'):=fun W A2 L2 c3 hW h2=>
  (Z21 _ _ (mkRat z d).den d W h2 ((hb.below HB.o).below hW) k hkd gk (by omega)).mono fun e W' ⟨h1,h2⟩=>⟨h1,hW.step h2.below⟩
 have HRES:Hid (((Z27 (mkRat z d).den d:Int)==0)=decide (Nat.gcd z.natAbs d=1)):=by
  show _=_;have h1:(mkRat z d).den=d↔Nat.gcd z.natAbs d=1:=HLO.o;by_cases h2:Nat.gcd z.natAbs d=1
  · rw[h1.2 h2,Z2v,decide_eq_true h2];rfl
  ·
   have h3:(mkRat z d).den≠d:=fun e=>h2 (h1.1 e);rw[decide_eq_false h2];rcases Nat.lt_or_gt_of_ne h3 with h4|h4
   · rw[Z1u h4];rfl
   · rw[Z28 h4];rfl
 have hfld:∀(s2:Bool) (A1:Option Addr) (L1 c1:Nat) (A2:Option Addr) (L2 c3:Nat) (W:World),Go.Sem.run Tryz.prog (Instr.field 116 (.agg #[.bool s2,.slice A1 L1 c1,.slice A2 L2 c3]) 1) W= .ok (.slice A2 L2 c3) W:=fun _ _ _ _ _ _ _ W=>by kernel_rfl
 have hqB:Gw w1 w1:=Gw.refl _;have hBD:Gw w1 w1.drew:=(Gw.refl _).drew;have HW1:=Za hw1;rw[hsb];clear hw1 HBK hsb hu hb hk gk hkd HLO;generalize decide (Nat.gcd z.natAbs d=1)=res at*;generalize Z27 (mkRat z d).den d=cr at*;generalize (mkRat z d).den=dd at*;go_enter Tryz.func85,Tryz.ntmps85;go_upto_region 1 with(fail);rw[←HW1.o]
 go_region_held3 (fun W=>W.cell? ⟨w.heap.size,0,none⟩=some (.bool sb)∧W.cell? ⟨w.heap.size,1,none⟩=some (.slice A L c)∧W.cell? ⟨w.heap.size,2,none⟩=some (.slice B M c2)∧Gw w1 W)
  (first|exact HS.o _ hBD|exact HS.o _ hqB)
  (first|(go_at_call 116; (with_reducible refine(HOV.o _ (by assumption)).mono ?_);rintro e w' ⟨s2,A1,L1,c1,A2,L2,c3,rfl,hv,hqB⟩)|(go_at_call 126; (with_reducible refine(HCM.o _ _ _ _ (by assumption) (Hid.o (by assumption))).mono ?_);rintro e w' ⟨rfl,hqB⟩))
 all_goals
  go_wp2_with fail;go_ret;exact⟨Z0a HRES.o,HB.o.trans (Below.mono hqB HB.o.size)⟩
end Go.Proofs.YtcemlhbfemenpaaGreatDoor
namespace Go.Proofs.YtcemlhbfemenpaaGreatDoor
open Go.RowKit Go.Dw
theorem Z6b (num den:ByteArray)(w:World)(hs:num.size≤9223372036854775807)(hs2:den.size≤9223372036854775807):
  Calls Tryz.prog 50 #[.agg #[.string num,.string den]] w fun e w'=>e= .returned (.int .i64 (Z2h num den))∧Below w.heap.size w w':=by
 obtain⟨w1,hw1⟩:∃w1,w1=w.alloc (.cells #[.string num,.string den] 59):=⟨_,rfl⟩;have HB:Hid (Below w.heap.size w w1):=by rw[hw1];exact(Zm _ _).alloc (Zh _) _
 have HK:Hid (Blk w1 w.heap.size 59 [.string num,.string den]):=by rw[hw1];exact Blk.new w _ _
 have c0:w1.cell? ⟨w.heap.size,0,none⟩=some (.string num):=HK.o.cell 0;have c1:w1.cell? ⟨w.heap.size,1,none⟩=some (.string den):=HK.o.cell 1;have HCP:Hid (∀W,Calls Tryz.prog 82 #[.string num,.string ⟨#[45]⟩] W fun e w'=>e= .returned (.tuple #[.string ⟨(boT num).toArray⟩,.bool (sgT num)])∧w'=W):=fun W=>Any.strings_CutPrefix Tryz.lays103 num ⟨#[45]⟩ W;obtain⟨n,hn⟩:∃n:ByteArray,n=⟨(boT num).toArray⟩:=⟨_,rfl⟩;have hnl:n.data.toList=boT num:=by rw[hn]
 have hnz:n.size=(boT num).length:=by rw[←hnl,Zo];rfl
 rw[←hn]at HCP;have hb:=Zcs num;have HD1:=Za (Z6f n w1 (by omega));have HD2:=Za (Z6f den w1 hs2);rw[hnl]at HD1;obtain⟨b1,hb1⟩:∃b,noZ (boT num)=b:=⟨_,rfl⟩;obtain⟨b3,hb3⟩:∃b,noZ den.data.toList=b:=⟨_,rfl⟩;obtain⟨sg,hsg⟩:∃b,sgT num=b:=⟨_,rfl⟩;obtain⟨b2,hb2⟩:∃b,decide (boT num= [48])=b:=⟨_,rfl⟩;obtain⟨b4,hb4⟩:∃b,decide (den.data.toList= [48])=b:=⟨_,rfl⟩;have hfr:Z8x num den=(b1 && !(sg && b2) && b3 && !b4):=by unfold Z8x;rw[hb1,hb3,hsg,hb2,hb4]
 have e2:(n.toList== [48])=b2:=by
  rw[ByteArray.toList_eq,hnl,←hb2];by_cases h:boT num= [48]
  · rw[h];rfl
  · rw[decide_eq_false h,beq_eq_false_iff_ne];exact h
 have e4:(den.toList== [48])=b4:=by
  rw[ByteArray.toList_eq,←hb4];by_cases h:den.data.toList= [48]
  · rw[h];rfl
  · rw[decide_eq_false h,beq_eq_false_iff_ne];exact h
 rw[hb1]at HD1;rw[hb3]at HD2;rw[hsg]at HCP;have HFR:=Za hfr;have HNZ:=Za hnz;have HW:=Za hw1;have hdz:den.data.toList.length=den.size:=by rw[Zo];rfl
 have HDZ:=Za hdz;clear hw1 hn hnl hnz hb hb1 hb3 hsg hb2 hb4 hfr hdz;go_enter Tryz.func50,Tryz.ntmps50;go_upto_region 1 with(fail);rw[←HW.o];go_wp2_with fail;refine(HCP.o _).mono ?_;rintro e w' ⟨rfl,hww⟩;subst hww;go_wp2_with fail;refine HD1.o.mono ?_;rintro e w' ⟨rfl,hww⟩;subst hww;cases b1
 · have HE:Hid (Z2h num den=3):=Z2w (by rw[HFR.o];rfl);go_wp2_with fail;go_ret;exact⟨Z02 HE.o.symm,HB.o⟩
 by_cases h2:(sg && b2)=true
 · have HE:Hid (Z2h num den=3):=Z2w (by rw[HFR.o,h2];rfl);obtain⟨rfl,rfl⟩:sg=true∧b2=true:=(by simpa using h2);clear h2;go_wp2_with fail;go_ret;exact⟨Z02 HE.o.symm,HB.o⟩
 have HSB:Hid ((sg && b2)=false):=by
  show _=_;cases h:(sg && b2)
  · rfl
  · exact absurd h h2
 clear h2;have HMID:Hid (Z8x num den=(b3 && !b4)):=by show _=_;rw[HFR.o,HSB.o];rfl
 have hr:sg=false∨(sg=true∧b2=false):=by
  cases sg
  · exact .inl rfl
  ·
   cases b2
   · exact .inr ⟨rfl,rfl⟩
   · exact absurd HSB.o (by decide)
 rcases hr with rfl|⟨rfl,rfl⟩
 all_goals
  clear HFR HSB;go_wp2_with fail;refine HD2.o.mono ?_;rintro e w' ⟨rfl,hww⟩;subst hww;cases b3
  case false=>have HE:Hid (Z2h num den=3):=Z2w (by rw[HMID.o];rfl);go_wp2_with fail;go_ret;exact⟨Z02 HE.o.symm,HB.o⟩
  cases b4
  case true=>have HE:Hid (Z2h num den=3):=Z2w (by rw[HMID.o];rfl);go_wp2_with fail;go_ret;exact⟨Z02 HE.o.symm,HB.o⟩
  have HF:Hid (Z8x num den=true):=by show _=_;rw[HMID.o];rfl
  by_cases hl1:2000<n.size
  · have HE:Hid (Z2h num den=2):=Z59 HF.o (.inl (by rw[←HNZ.o];exact hl1));have hd1:decide (2000<n.size)=true:=(by simpa using hl1);go_wp2_with fail;go_ret;exact⟨Z02 HE.o.symm,HB.o⟩
  have hd1:decide (2000<n.size)=false:=by simpa using hl1
  by_cases hl2:2000<den.size
  · have HE:Hid (Z2h num den=2):=Z59 HF.o (.inr (by rw[HDZ.o];exact hl2));have hd2:decide (2000<den.size)=true:=(by simpa using hl2);go_wp2_with fail;go_ret;exact⟨Z02 HE.o.symm,HB.o⟩
  have hd2:decide (2000<den.size)=false:=by simpa using hl2
  obtain⟨f1,f2,f3,f4⟩:=Z92 HF.o;have HV:=Za (Za6 HF.o (by rw[←HNZ.o,HDZ.o];omega))
  have hnum:num.size≤1099511627776:=by
   have h1:num.size≤n.size+1:=by
    rw[HNZ.o];unfold boT Lib.trimPrefix
    split
    · rw[List.length_drop,Zo];show num.size≤num.size - 1+1;omega
    · rw[Zo];show num.size≤num.size+1;omega
   omega
  have HFM:=Za (Zab num den w' hnum (by omega) ((Z0p _).1 f1).1 ((Z0p _).1 f2).1 f3);have HLO:=Za (fun(v:Value) (W:World) (h:Zcj W v (Z6x num) (Z0e den.data.toList))=>Zbo v (Z6x num) (Z0e den.data.toList) W h 2000 (by rw[Z2t];exact Z2d ((Z0p _).1 f1).1 (by rw[←HNZ.o];omega)) (Z2d ((Z0p _).1 f2).1 (by rw[HDZ.o];omega)) (by omega));rw[Z2t]at HLO;obtain⟨gb,hgb⟩:∃b,decide (Nat.gcd (Z0e (boT num)) (Z0e den.data.toList)=1)=b:=⟨_,rfl⟩;rw[hgb]at HLO;have HVV:Hid (Z2h num den=if gb=true then 0 else 3):=by show _=_;rw[HV.o,←hgb];simp
  clear hgb f1 f2 f3 f4 hnum HV;go_wp2_with fail;refine HFM.o.mono ?_;rintro e w2 ⟨v,rfl,hv,hq⟩;have HB2:=Za (HB.o.trans (hq.mono HB.o.size));have HL2:=Za (HLO.o v w2 hv);clear hv hq;go_wp2_with fail;refine HL2.o.mono ?_;rintro e w3 ⟨rfl,hq3⟩;have HB3:=Za (HB2.o.trans (hq3.mono HB2.o.size));clear hq3;cases gb
  · go_wp2_with fail;go_ret;exact⟨Z02 HVV.o.symm,HB3.o⟩
  · go_wp2_with fail;go_ret;exact⟨Z02 HVV.o.symm,HB3.o⟩
end Go.Proofs.YtcemlhbfemenpaaGreatDoor
