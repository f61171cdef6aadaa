/- Several texts laid into one: The contracts of the reference's Of and Long; The contract of the reference's Long; -/
import Derived.Test.YtcemlhbfemenpaaGreatDoorCkZ
import Derived.Deep.DrawnRows
set_option maxHeartbeats 8000000
set_option maxRecDepth 100000
namespace Go.Proofs.YtcemlhbfemenpaaGreatDoor
open Go.RowKit Go.Dw
attribute [local go_sem ↓] Go.wp_at_zero Go.wp_at_succ
def Z1f (w:World)(v:Value)(sg:Bool)(a b:Nat):Prop:=∃x y,v= .agg #[.bool sg,x,y]∧Z05 w x a∧Z05 w y b
theorem Z1f.below {w w':World}{v:Value}{sg:Bool}{a b:Nat}(h:Z1f w v sg a b)(hb:Below w.heap.size w w'):Z1f w' v sg a b:=by
 obtain⟨x,y,e,h1,h2⟩:=h;exact⟨x,y,e,h1.below hb,h2.below hb⟩
theorem Z0g {w:World}{v:Value}{n:Nat}(h:Z05 w v n):∃A L c,v= .slice A L c:=by
 obtain⟨A,c,l,rfl,_⟩:=h;exact⟨A,_,c,rfl⟩
def Gz (B:Nat)(w W:World):Prop:=Below B w W
theorem Gq.gz {w W:World}(h:Gq w W){B:Nat}(hB:B≤w.heap.size):Gz B w W:=Below.mono h hB
theorem Gz.set {B:Nat}{w W:World}(h:Gz B w W)(p:Addr)(hp:B≤p.block)(v:Value):Gz B w (W.setCell p v):=Below.setCell h hp v
theorem boT_drop {s:ByteArray}(h:sgT s=true):boT s=s.data.toList.drop 1:=by
 rw[Zba,if_pos (by have:sgT s=decide (s.data.toList.head? =some 45):=Zfd _;rw[this]at h;exact of_decide_eq_true h)]
theorem boT_same {s:ByteArray}(h:sgT s=false):boT s=s.data.toList:=by
 rw[Zba,if_neg (by have:sgT s=decide (s.data.toList.head? =some 45):=Zfd _;rw[this]at h;exact of_decide_eq_false h)]
theorem Zbb {w:World}{v:Value}{n g:Nat}(h:Z05 w v n)(f:FrB (g+1) v)(x y z:Value):Z05 (((w.setCell ⟨g,0,none⟩ x).setCell ⟨g,1,none⟩ y).setCell ⟨g,2,none⟩ z) v n:=by
 have hne:v.ownBlock≠some g:=fun e=>by have:=f.1 _ e;omega
 exact Z05.set (Z05.set (Z05.set h hne x) hne y) hne z
theorem Zbc {w w':World}{v:Value}{n:Nat}(h:Hid (Z05 w v n))(k:Hid (Gq w w')):Z05 w' v n:=Z05.below h.o k.o
theorem Zff (num den:ByteArray)(w:World)(h:RatR num den)(hs:num.size≤9223372036854775807):
  Calls Tryz.prog 56 #[.agg #[.string num,.string den]] w fun e w'=>∃v,e= .returned v∧Z1f w' v (sgT num) (Z0e (boT num)) (Z0e den.data.toList)∧Below w.heap.size w w':=by
 obtain⟨w1,hw1⟩:∃w1,w1=(w.alloc (.cells #[.string num,.string den] 59)).alloc (.cells #[.bool false,.slice none 0 0,.slice none 0 0] 85):=⟨_,rfl⟩;have hz1:w1.heap.size=w.heap.size+2:=by rw[hw1];simp
 have HB:Hid (Below w.heap.size w w1):=by rw[hw1];exact((Zm _ _).alloc (Zh _) _).alloc (by simp) _
 have HG:Hid (Blk w1 (w.heap.size+1) 85 [.bool false,.slice none 0 0,.slice none 0 0]):=by rw[hw1];have:=Blk.new (w.alloc (.cells #[.string num,.string den] 59)) 85 [.bool false,.slice none 0 0,.slice none 0 0];rw[show(w.alloc (.cells #[.string num,.string den] 59)).heap.size=w.heap.size+1 by simp]at this;exact this
 have HA:Hid (Blk w1 w.heap.size 59 [.string num,.string den]):=by rw[hw1];exact(Below.heap_alloc _ _ _ (by simp)).trans (Blk.new w _ [.string num,.string den])
 have HS:Hid (∀W,Gz (w.heap.size+1) w1 W→W.cell? ⟨w.heap.size,1,none⟩=some (.string den)∧Gz (w.heap.size+1) w1 W):=fun W hW=>by have c0:Blk W w.heap.size 59 [.string num,.string den]:=(Below.block hW _ (by omega)).trans HA.o;exact⟨c0.cell 1,hW⟩
 have c0:w1.cell? ⟨w.heap.size,0,none⟩=some (.string num):=HA.o.cell 0;obtain⟨n,hn⟩:∃n:ByteArray,n=⟨(boT num).toArray⟩:=⟨_,rfl⟩;have hnl:n.data.toList=boT num:=by rw[hn]
 have hnz:n.size≤2000:=by have:=h.nl;rw[←hnl,Zo]at this;exact this
 have hdz:den.size≤2000:=by have:=h.dl;rw[Zo]at this;exact this
 have HLA:Hid (∀W,Gq w1 W→Calls Tryz.prog 96 #[.string n] W fun e W'=>∃A L c,e= .returned (.slice A L c)∧Hid (Z05 W' (.slice A L c) (Z0e (boT num)))∧Hid (FrB (w.heap.size+2) (.slice A L c))∧Hid (Gq W W')∧Gq w1 W'):=fun W hW=>
  (Z2q n W (by rw[hnl];exact((Z0p _).1 h.nz).1) (by omega)).mono fun e W' ⟨v,h1,h2,h3,h4⟩=>by obtain⟨A,L,c,rfl⟩:=Z0g h2;rw[hnl]at h2;exact⟨A,L,c,h1,h2,h3.mono (by have:=Below.size hW;omega),h4,hW.trans h4⟩
 have HLB:Hid (∀W,Gq w1 W→Calls Tryz.prog 96 #[.string den] W fun e W'=>∃A L c,e= .returned (.slice A L c)∧Hid (Z05 W' (.slice A L c) (Z0e den.data.toList))∧Hid (FrB (w.heap.size+2) (.slice A L c))∧Hid (Gq W W')∧Gq w1 W'):=fun W hW=>
  (Z2q den W ((Z0p _).1 h.dz).1 (by omega)).mono fun e W' ⟨v,h1,h2,h3,h4⟩=>by obtain⟨A,L,c,rfl⟩:=Z0g h2;exact⟨A,L,c,h1,h2,h3.mono (by have:=Below.size hW;omega),h4,hW.trans h4⟩
 have HCE:Hid (∀W,Gq w1 W→W.cell? ⟨w.heap.size+1,0,none⟩=some (.bool false)∧W.cell? ⟨w.heap.size+1,1,none⟩=some (.slice none 0 0)∧W.cell? ⟨w.heap.size+1,2,none⟩=some (.slice none 0 0)∧W.frozen? ⟨w.heap.size+1,0,none⟩=false∧W.frozen? ⟨w.heap.size+1,1,none⟩=false∧W.frozen? ⟨w.heap.size+1,2,none⟩=false):=fun W hW=>by have k:=HG.o.same (Same.of_below (S:=fun _=>True) hW) trivial;exact⟨k.cell 0,k.cell 1,k.cell 2,k.frozen 0,k.frozen 1,k.frozen 2⟩
 have HEND:Hid (∀W A L c B M c2 sb,Gq w1 W→Z05 W (.slice A L c) (Z0e (boT num))→Z05 W (.slice B M c2) (Z0e den.data.toList)→FrB (w.heap.size+2) (.slice A L c)→FrB (w.heap.size+2) (.slice B M c2)→
   Below w.heap.size w (((W.setCell ⟨w.heap.size+1,0,none⟩ (.bool sb)).setCell ⟨w.heap.size+1,1,none⟩ (.slice A L c)).setCell ⟨w.heap.size+1,2,none⟩ (.slice B M c2))∧
   ((((W.setCell ⟨w.heap.size+1,0,none⟩ (.bool sb)).setCell ⟨w.heap.size+1,1,none⟩ (.slice A L c)).setCell ⟨w.heap.size+1,2,none⟩ (.slice B M c2)).cell? ⟨w.heap.size+1,0,none⟩=some (.bool sb)∧(((W.setCell ⟨w.heap.size+1,0,none⟩ (.bool sb)).setCell ⟨w.heap.size+1,1,none⟩ (.slice A L c)).setCell ⟨w.heap.size+1,2,none⟩ (.slice B M c2)).cell? ⟨w.heap.size+1,1,none⟩=some (.slice A L c)∧(((W.setCell ⟨w.heap.size+1,0,none⟩ (.bool sb)).setCell ⟨w.heap.size+1,1,none⟩ (.slice A L c)).setCell ⟨w.heap.size+1,2,none⟩ (.slice B M c2)).cell? ⟨w.heap.size+1,2,none⟩=some (.slice B M c2))∧
   Z1f (((W.setCell ⟨w.heap.size+1,0,none⟩ (.bool sb)).setCell ⟨w.heap.size+1,1,none⟩ (.slice A L c)).setCell ⟨w.heap.size+1,2,none⟩ (.slice B M c2)) (.agg #[.bool sb,.slice A L c,.slice B M c2]) sb (Z0e (boT num)) (Z0e den.data.toList)):=fun W A L c B M c2 sb hW h1 h2 f1 f2=>by
  have k:=((((HG.o.same (Same.of_below (S:=fun _=>True) hW) trivial).set_ 0 (.bool sb)).set_ 1 (.slice A L c)).set_ 2 (.slice B M c2));have hbw:=HB.o.trans (Below.mono hW HB.o.size);refine⟨((hbw.setCell (p:=⟨w.heap.size+1,0,none⟩) (by simp) _).setCell (p:=⟨w.heap.size+1,1,none⟩) (by simp) _).setCell (p:=⟨w.heap.size+1,2,none⟩) (by simp) _,⟨k.cell 0,k.cell 1,k.cell 2⟩,_,_,rfl,Zbb h1 f1 _ _ _,Zbb h2 f2 _ _ _⟩
 have hz2:w.heap.size+1≤w1.heap.size:=by omega
 have hqB:Gq w1 w1:=Gq.refl _;have hBD:Gq w1 w1.drew:=(Gq.refl _).drew;have HW1:=Za hw1;have hne:w.heap.size≠w.heap.size+1:=by omega
 clear hw1 HA;have hll:num.data.toList.length=num.size:=by rw[Zo];rfl
 have hp:0<num.size:=by
  rcases Nat.eq_zero_or_pos num.size with e|e
  · have:num.data.toList= []:=Zk (by omega);have h2:=h.nz;rw[Zba,this]at h2;simp[Zcu]at h2
  · exact e
 have hpb:decide (0<num.size)=true:=decide_eq_true hp
 have hh:num.data.toList.head? =some (num[0]'hp):=by
  cases hq:num.data.toList with
  |nil=>rw[hq]at hll;simp at hll;omega
  |cons x r=>
   have:num.data.toList[0]'(by rw[hq];simp)=num[0]'hp:=(by rw[Array.getElem_toList];rfl);rw[←this];simp[hq]
 have hsg:sgT num=decide (num[0]'hp=45):=by have:sgT num=decide (num.data.toList.head? =some 45):=Zfd _;rw[this,hh];simp
 have hmain:(sgT num=true∧(((num[0]'hp).toNat:Int)==45)=true∧num.extract 1 num.size=n)∨(sgT num=false∧(((num[0]'hp).toNat:Int)==45)=false∧num=n):=by
  by_cases h2:num[0]'hp=45
  · have hs1:sgT num=true:=(by rw[hsg];exact decide_eq_true h2);refine .inl ⟨hs1,by rw[h2];rfl, ?_⟩;apply Z1w;rw[hnl,boT_drop hs1,Z5h,Zl (by omega)]
  ·
   have hs1:sgT num=false:=(by rw[hsg];exact decide_eq_false h2);refine .inr ⟨hs1, ?_, ?_⟩
   · rw[beq_eq_false_iff_ne];intro e;exact h2 (UInt8.toNat_inj.1 (by have:(45:UInt8).toNat=45:=rfl;omega))
   · apply Z1w;rw[hnl,boT_same hs1]
 generalize Z0e den.data.toList=y at*;generalize Z0e (boT num)=x at*;generalize sgT num=sb at*;have HH:=Za h;clear hsg hh hn hnl hnz hdz h;go_enter Tryz.func56,Tryz.ntmps56;go_upto_region 1 with(fail);rw[←HW1.o];rcases hmain with⟨rfl,h45,hx⟩|⟨rfl,h45,rfl⟩
 ·
  have HX:=Za hx;clear hx;go_upto_region 4 with(fail);rw[HX.o]
  go_region_held3 (fun W=>W.cell? ⟨w.heap.size,1,none⟩=some (.string den)∧Gz (w.heap.size+1) w1 W)
   (first|exact HS.o _ (Gq.gz hBD hz2)|exact HS.o _ (Gq.gz hqB hz2)|exact HS.o _ ((((Gq.gz hqB hz2).set ⟨w.heap.size+1,0,none⟩ (Zh _) _).set ⟨w.heap.size+1,1,none⟩ (Zh _) _).set ⟨w.heap.size+1,2,none⟩ (Zh _) _))
   (first|(go_at_call 96; (with_reducible refine(HLA.o _ (by assumption)).mono ?_);rintro e w' ⟨A,L,c,rfl,hv,hf,hb,hqB⟩;obtain⟨q0,q1,q2,q3,q4,q5⟩:=HCE.o _ hqB)|(go_at_call 96; (with_reducible refine(HLB.o _ (by assumption)).mono ?_);rintro e w' ⟨B,M,c2,rfl,hv,hf,hb,hqB⟩;obtain⟨q0,q1,q2,q3,q4,q5⟩:=HCE.o _ hqB))
  all_goals
   have hA:Z05 w' (.slice A L c) x:=by
    first
     |exact Hid.o (show Hid (Z05 w' (.slice A L c) x) by assumption)
     |exact Zbc (w':=w') (by assumption) (by assumption)
   have hC:Z05 w' (.slice B M c2) y:=by
    first
     |exact Hid.o (show Hid (Z05 w' (.slice B M c2) y) by assumption)
     |exact Zbc (w':=w') (by assumption) (by assumption)
   have fA:Hid (FrB (w.heap.size+2) (.slice A L c)):=(by assumption);have fC:Hid (FrB (w.heap.size+2) (.slice B M c2)):=(by assumption);obtain⟨k1,⟨k2,k3,k4⟩,k5⟩:=HEND.o w' A L c B M c2 _ hqB hA hC fA.o fC.o;go_wp2_with fail;refine bodyPost_ret (by simp[results,Tryz.results56,go_sem,k2,k3,k4]) rfl ⟨_,rfl,k5,k1⟩
 ·
  go_upto_region 4 with(fail)
  go_region_held3 (fun W=>W.cell? ⟨w.heap.size,1,none⟩=some (.string den)∧Gz (w.heap.size+1) w1 W)
   (first|exact HS.o _ (Gq.gz hBD hz2)|exact HS.o _ (Gq.gz hqB hz2)|exact HS.o _ ((((Gq.gz hqB hz2).set ⟨w.heap.size+1,0,none⟩ (Zh _) _).set ⟨w.heap.size+1,1,none⟩ (Zh _) _).set ⟨w.heap.size+1,2,none⟩ (Zh _) _))
   (first|(go_at_call 96; (with_reducible refine(HLA.o _ (by assumption)).mono ?_);rintro e w' ⟨A,L,c,rfl,hv,hf,hb,hqB⟩;obtain⟨q0,q1,q2,q3,q4,q5⟩:=HCE.o _ hqB)|(go_at_call 96; (with_reducible refine(HLB.o _ (by assumption)).mono ?_);rintro e w' ⟨B,M,c2,rfl,hv,hf,hb,hqB⟩;obtain⟨q0,q1,q2,q3,q4,q5⟩:=HCE.o _ hqB))
  all_goals
   have hA:Z05 w' (.slice A L c) x:=by
    first
     |exact Hid.o (show Hid (Z05 w' (.slice A L c) x) by assumption)
     |exact Zbc (w':=w') (by assumption) (by assumption)
   have hC:Z05 w' (.slice B M c2) y:=by
    first
     |exact Hid.o (show Hid (Z05 w' (.slice B M c2) y) by assumption)
     |exact Zbc (w':=w') (by assumption) (by assumption)
   have fA:Hid (FrB (w.heap.size+2) (.slice A L c)):=(by assumption);have fC:Hid (FrB (w.heap.size+2) (.slice B M c2)):=(by assumption);obtain⟨k1,⟨k2,k3,k4⟩,k5⟩:=HEND.o w' A L c B M c2 _ hqB hA hC fA.o fC.o;go_wp2_with fail;refine bodyPost_ret (by simp[results,Tryz.results56,go_sem,k2,k3,k4]) rfl ⟨_,rfl,k5,k1⟩
end Go.Proofs.YtcemlhbfemenpaaGreatDoor
namespace Go.Proofs.YtcemlhbfemenpaaGreatDoor
open Go.RowKit Go.Dw
theorem Zfg (v:Value)(sg:Bool)(a b m:Nat)(w:World)(h:Z1f w v sg a b)(k:Nat)(hk:Lim k a)(gk:Lim k b)(hk2:k≤1000000)(hp:HasPow w)(_hm:m≤1000000):
  Calls Tryz.prog 55 #[v,.int .i64 (m:Int)] w fun e w'=>e= .returned (.bool (decide (m<(Lib.decDigits a).length)||decide (m<(Lib.decDigits b).length)))∧Below w.heap.size w w':=by
 obtain⟨x,y,rfl,hx,hy⟩:=h;obtain⟨w1,hw1⟩:∃w1,w1=w.alloc (.cells #[.bool sg,x,y] 85):=⟨_,rfl⟩;have HB:Hid (Gq w w1):=by rw[hw1];exact(Gq.refl _).alloc _
 have HK:Hid (Blk w1 w.heap.size 85 [.bool sg,x,y]):=by rw[hw1];exact Blk.new w _ _
 have HDA:Hid (∀W,Gq w W→Calls Tryz.prog 95 #[x] W fun e W'=>e= .returned (.string ⟨(Lib.decDigits a).toArray⟩)∧Gq W W'):=fun W hW=>Z2y x a W (hx.below hW) k hk hk2 (hp.below hW);have HDB:Hid (∀W,Gq w W→Calls Tryz.prog 95 #[y] W fun e W'=>e= .returned (.string ⟨(Lib.decDigits b).toArray⟩)∧Gq W W'):=fun W hW=>Z2y y b W (hy.below hW) k gk hk2 (hp.below hW);obtain⟨A,L,c,rfl⟩:=Z0g hx;obtain⟨B,M,d,rfl⟩:=Z0g hy;have ha:(⟨(Lib.decDigits a).toArray⟩:ByteArray).size=(Lib.decDigits a).length:=Z5i _;have hb:(⟨(Lib.decDigits b).toArray⟩:ByteArray).size=(Lib.decDigits b).length:=Z5i _;generalize (⟨(Lib.decDigits a).toArray⟩:ByteArray)=sa at*;generalize (⟨(Lib.decDigits b).toArray⟩:ByteArray)=sb at*;rw[←ha,←hb];have c1:w1.cell? ⟨w.heap.size,1,none⟩=some (.slice A L c):=HK.o.cell 1;have HW:=Za hw1;clear hw1 hx hy hk gk hp ha hb;go_enter Tryz.func55,Tryz.ntmps55;go_upto_region 1 with(fail);rw[←HW.o];go_wp2_with fail;refine(HDA.o _ HB.o).mono ?_;rintro e w2 ⟨rfl,hb2⟩;have HB2:Hid (Gq w w2):=HB.o.trans hb2;have HK2:=Za (HK.o.same (Same.of_below (S:=fun _=>True) hb2) trivial);clear hb2 c1;by_cases h1:m<sa.size
 · have h1b:decide (m<sa.size)=true:=(by simpa using h1);have h1c:decide ((m:Int)<(sa.size:Int))=true:=decide_eq_true (by omega);go_wp2_with fail;go_ret;exact⟨by simp[h1],HB2.o⟩
 have h1b:decide (m<sa.size)=false:=by simpa using h1
 have h1c:decide ((m:Int)<(sa.size:Int))=false:=decide_eq_false (by omega);have c2:w2.cell? ⟨w.heap.size,2,none⟩=some (.slice B M d):=HK2.o.cell 2;go_wp2_with fail;refine(HDB.o _ HB2.o).mono ?_;rintro e w3 ⟨rfl,hb3⟩;have HB3:Hid (Gq w w3):=HB2.o.trans hb3;clear hb3;go_wp2_with fail;go_ret;exact⟨by simp[h1],HB3.o⟩
end Go.Proofs.YtcemlhbfemenpaaGreatDoor
