/- Several texts laid into one: The contract of (num.Nat).Add; The contract of (num.Nat).sub; The contract of (num.Nat).Mul; The contract of (num.Nat).Mul, continued: by rows; -/
import Derived.Test.YtcemlhbfemenpaaGreatDoorNumB
import Derived.Test.YtcemlhbfemenpaaGreatDoorShNum
set_option maxHeartbeats 8000000
set_option maxRecDepth 100000
namespace Go.Proofs.YtcemlhbfemenpaaGreatDoor
open Go.RowKit Go.Dw
def AddRes (a b:Nat)(w:World)(e:Ending)(w':World):Prop:=∃v,e= .returned v∧Z09 w' v (a+b)∧Below w.heap.size w w'
theorem addN_any (va vb:Value)(a b:Nat)(w:World)(h:Z09 w va a)(g:Z09 w vb b)(k:Nat)(hk:Lim k a)(gk:Lim k b)(hk2:k≤549755813888):
  Calls Tryz.prog 174 #[va,vb] w (AddRes a b w):=by
 obtain⟨A,c,l,rfl,hr,hn,rfl⟩:=h;obtain⟨B,d,m,rfl,gr,gn,rfl⟩:=g;have hL:=Lim.len hn hk;have gL:=Lim.len gn gk;have HDl:=Za hn.1;have HDm:=Za gn.1;have HRl:=Za hr;have HRm:=Za gr;have hw:W32=4294967296:=rfl;have HW:=Za hw;clear hr gr hn gn hk gk hw;by_cases hsw:l.length<m.length
 case neg=>
  have hmk:=fun(n:Int) (hn:n=((l.length+1:Nat):Int))=>Z2x n (l.length+1) hn (by omega) w;have hmk1:=hmk ((l.length:Int)+1) (by simp);clear hmk;obtain⟨w1,hw1⟩:∃w1,w1=w.alloc (.cells (zs (l.length+1) (.int .u32 0)).toArray 177):=⟨_,rfl⟩;have HF0:Hid (Z1h w1 w.heap.size [] (l.length+1)):=by rw[hw1];exact Z1h.start w _
  have HB0:Hid (Below w.heap.size w w1):=by rw[hw1];exact(Zm _ _).alloc (Zh _) _
  rw[←hw1]at hmk1;clear hw1;generalize hG:w.heap.size=G at*;have HG:=Za hG;clear hG;go_enter Tryz.func174,Tryz.ntmps174
  go_wp2
  clear hmk1
  go_loopw [6,7,21] (fun cv _ iv wr=>∃(i c:Nat) (p:List Nat) (n:Nat),i≤l.length∧iv= .int .i64 (i:Int)∧cv= .int .u64 (c:Int)∧c≤1∧Hid (p.length=i∧i+n=l.length+1∧Ds W32 p∧val W32 p+W32 ^ i*c=val W32 (l.take i)+val W32 (m.take i)∧Z1h wr G p n)∧Hid (Below G w wr)) (fun _ _ iv _=>l.length - (intOf iv).toNat)
  case atStart=>exact⟨0,0,[],l.length+1,Nat.zero_le _,rfl,rfl,by omega,⟨rfl,by omega,Ds.nil,by simp[val],HF0.o⟩,HB0.o⟩
  case round=>
   obtain⟨i,c,p,n,hi,rfl,rfl,hc,HP,HB⟩:=hrel;obtain⟨n,rfl⟩:∃n',n=n'+1:=⟨n - 1,by have:=HP.o.2.1;omega⟩;obtain⟨e1,f1⟩:=HP.o.2.2.2.2.cell;rw[HP.o.1]at e1 f1;by_cases hil:i<l.length
   case neg=>have hii:i=l.length:=(by omega);have HV:Hid (val W32 (p++ [c])=val W32 l+val W32 m∧(p++ [c]).length=l.length+1∧Ds W32 (p++ [c])):=(by obtain⟨q1,q2,q3,q4,q5⟩:=HP.o;refine⟨?_,by simp;omega,q3.app (by intro x hx;simp at hx;subst hx;have:=HW.o;omega)⟩;rw[Z0v,q1,q4,Zl (by omega),Zl (by omega)]);have HF1:Hid (Z1h (wr.setCell ⟨G,i,none⟩ (.int .u32 (c:Nat))) G (p++ [c]) 0):=(by have hn0:n=0:=(by have:=HP.o.2.1;omega);subst hn0;have:=HP.o.2.2.2.2.set c;rw[HP.o.1]at this;exact this);have HRD:Hid (Rd (wr.setCell ⟨G,i,none⟩ (.int .u32 (c:Nat))) (some ⟨G,0,none⟩) (uc (p++ [c]))):=(by show Rd _ _ _;have:=Blk.rd HF1.o;simpa using this);have HBB:Hid (Below G w (wr.setCell ⟨G,i,none⟩ (.int .u32 (c:Nat)))):=HB.o.setCell (p:=⟨G,i,none⟩) (Zh _) _;have HTR:Hid (∀W,W=wr.setCell ⟨G,i,none⟩ (.int .u32 (c:Nat))→Calls Tryz.prog 154 #[.slice (some ⟨G,0,none⟩) (l.length+1) (l.length+1)] W fun e w'=>e= .returned (.slice (some ⟨G,0,none⟩) (Z0f (p++ [c])).length (l.length+1))∧W=w'):=fun W hW=>(by subst hW;have:=Z0w (some ⟨G,0,none⟩) (l.length+1) (p++ [c]) _ HRD.o (by rw[HV.o.2.1];omega) (by rw[HV.o.2.1];omega) (by omega);rw[HV.o.2.1]at this;exact this);subst hii;clear HP HB HF1 hi;go_wp2_with (go_at_call 154;refine(HTR.o _ rfl).mono ?_;rintro e w' ⟨rfl,rfl⟩);go_ret;refine⟨_,rfl, ?_,HG.o▸HBB.o⟩;have:=Z0q (c:=l.length+1) HRD.o HV.o.2.2;rw[HV.o.1]at this;first|exact this|(rw[Nat.add_comm (val W32 m)]at this;exact this)
   have HBl:=Za (HRl.o.below (HG.o▸HB.o:Below w.heap.size w wr));have HBm:=Za (HRm.o.below (HG.o▸HB.o:Below w.heap.size w wr));obtain⟨b1,o1,hA,hb1,hc1⟩:=Z0s HBl.o (by omega);subst hA;have d1:=hc1 i hil;have x1:=HDl.o.getD (by decide) i;have y1:=HDm.o.getD (by decide) i;rw[HW.o]at x1 y1;have HST:Hid (∀s:Nat,s=c+l.getD i 0+m.getD i 0→val W32 (p++ [s % W32])+W32 ^ (i+1)*(s / W32)=val W32 (l.take (i+1))+val W32 (m.take (i+1))):=fun s hs=>(by rw[hs];exact Z6v HP.o.1 HP.o.2.2.2.1);have HDP:Hid (∀s:Nat,Ds W32 (p++ [s % W32])):=fun s=>HP.o.2.2.1.app (by intro x hx;simp at hx;subst hx;exact Nat.mod_lt _ (by decide));have HFS:Hid (∀s:Nat,Z1h (wr.setCell ⟨G,i,none⟩ (.int .u32 ((s % W32:Nat):Int))) G (p++ [s % W32]) n):=fun s=>(by have:=HP.o.2.2.2.2.set (s % W32);rw[HP.o.1]at this;exact this);have HLN:Hid (∀s:Nat,(p++ [s % W32]).length=i+1∧i+1+n=l.length+1):=fun s=>⟨by simp[HP.o.1],by have:=HP.o.2.1;omega⟩;have HBS:Hid (∀u,Below G w (wr.setCell ⟨G,i,none⟩ u)):=fun u=>HB.o.setCell (p:=⟨G,i,none⟩) (Zh _) u;by_cases him:i<m.length
   ·
    obtain⟨b2,o2,hA2,hb2,hc2⟩:=Z0s HBm.o (by omega);subst hA2;have d2:=hc2 i him;clear hc1 hc2 HBl HBm HP HB;generalize l.getD i 0=x at*;generalize m.getD i 0=y at*;obtain⟨s,hs⟩:∃s:Nat,s=c+x+y:=⟨_,rfl⟩;have HE:Hid ((c:Int)+x+y=(s:Int)):=(by show _=_;omega);have hs1:s<8589934592:=(by omega);have HS:=Za (HST.o s hs);have hq:s / W32≤1:=(by rw[HW.o];omega);have HQ:=Za hq;clear hs HST hq
    go_wp2
    rw[HE.o,Z9a,Z9b];go_roundw
    case rel=>exact⟨i+1,s / W32,p++ [s % W32],n,by omega,by go_num,rfl,HQ.o,⟨(HLN.o s).1,(HLN.o s).2,HDP.o s,HS.o,HFS.o s⟩,HBS.o _⟩
    case measure=>simp[intOf];omega
   ·
    have y0:m.getD i 0=0:=(by rw[Zg,List.getElem?_eq_none (by omega)];rfl);clear hc1 HBl HBm HP HB;generalize l.getD i 0=x at*;generalize m.getD i 0=y at*;subst y0;obtain⟨s,hs⟩:∃s:Nat,s=c+x+0:=⟨_,rfl⟩;have HE:Hid ((c:Int)+x=(s:Int)):=(by show _=_;omega);have hs1:s<8589934592:=(by omega);have HS:=Za (HST.o s hs);have hq:s / W32≤1:=(by rw[HW.o];omega);have HQ:=Za hq;clear hs HST hq
    go_wp2
    rw[HE.o,Z9a,Z9b];go_roundw
    case rel=>exact⟨i+1,s / W32,p++ [s % W32],n,by omega,by go_num,rfl,HQ.o,⟨(HLN.o s).1,(HLN.o s).2,HDP.o s,HS.o,HFS.o s⟩,HBS.o _⟩
    case measure=>simp[intOf];omega
 case pos=>
  have hmk:=fun(n:Int) (hn:n=((m.length+1:Nat):Int))=>Z2x n (m.length+1) hn (by omega) w;have hmk1:=hmk ((m.length:Int)+1) (by simp);clear hmk;obtain⟨w1,hw1⟩:∃w1,w1=w.alloc (.cells (zs (m.length+1) (.int .u32 0)).toArray 177):=⟨_,rfl⟩;have HF0:Hid (Z1h w1 w.heap.size [] (m.length+1)):=by rw[hw1];exact Z1h.start w _
  have HB0:Hid (Below w.heap.size w w1):=by rw[hw1];exact(Zm _ _).alloc (Zh _) _
  rw[←hw1]at hmk1;clear hw1;generalize hG:w.heap.size=G at*;have HG:=Za hG;clear hG;go_enter Tryz.func174,Tryz.ntmps174
  go_wp2
  clear hmk1
  go_loopw [6,7,21] (fun cv _ iv wr=>∃(i c:Nat) (p:List Nat) (n:Nat),i≤m.length∧iv= .int .i64 (i:Int)∧cv= .int .u64 (c:Int)∧c≤1∧Hid (p.length=i∧i+n=m.length+1∧Ds W32 p∧val W32 p+W32 ^ i*c=val W32 (m.take i)+val W32 (l.take i)∧Z1h wr G p n)∧Hid (Below G w wr)) (fun _ _ iv _=>m.length - (intOf iv).toNat)
  case atStart=>exact⟨0,0,[],m.length+1,Nat.zero_le _,rfl,rfl,by omega,⟨rfl,by omega,Ds.nil,by simp[val],HF0.o⟩,HB0.o⟩
  case round=>
   obtain⟨i,c,p,n,hi,rfl,rfl,hc,HP,HB⟩:=hrel;obtain⟨n,rfl⟩:∃n',n=n'+1:=⟨n - 1,by have:=HP.o.2.1;omega⟩;obtain⟨e1,f1⟩:=HP.o.2.2.2.2.cell;rw[HP.o.1]at e1 f1;by_cases hil:i<m.length
   case neg=>have hii:i=m.length:=(by omega);have HV:Hid (val W32 (p++ [c])=val W32 m+val W32 l∧(p++ [c]).length=m.length+1∧Ds W32 (p++ [c])):=(by obtain⟨q1,q2,q3,q4,q5⟩:=HP.o;refine⟨?_,by simp;omega,q3.app (by intro x hx;simp at hx;subst hx;have:=HW.o;omega)⟩;rw[Z0v,q1,q4,Zl (by omega),Zl (by omega)]);have HF1:Hid (Z1h (wr.setCell ⟨G,i,none⟩ (.int .u32 (c:Nat))) G (p++ [c]) 0):=(by have hn0:n=0:=(by have:=HP.o.2.1;omega);subst hn0;have:=HP.o.2.2.2.2.set c;rw[HP.o.1]at this;exact this);have HRD:Hid (Rd (wr.setCell ⟨G,i,none⟩ (.int .u32 (c:Nat))) (some ⟨G,0,none⟩) (uc (p++ [c]))):=(by show Rd _ _ _;have:=Blk.rd HF1.o;simpa using this);have HBB:Hid (Below G w (wr.setCell ⟨G,i,none⟩ (.int .u32 (c:Nat)))):=HB.o.setCell (p:=⟨G,i,none⟩) (Zh _) _;have HTR:Hid (∀W,W=wr.setCell ⟨G,i,none⟩ (.int .u32 (c:Nat))→Calls Tryz.prog 154 #[.slice (some ⟨G,0,none⟩) (m.length+1) (m.length+1)] W fun e w'=>e= .returned (.slice (some ⟨G,0,none⟩) (Z0f (p++ [c])).length (m.length+1))∧W=w'):=fun W hW=>(by subst hW;have:=Z0w (some ⟨G,0,none⟩) (m.length+1) (p++ [c]) _ HRD.o (by rw[HV.o.2.1];omega) (by rw[HV.o.2.1];omega) (by omega);rw[HV.o.2.1]at this;exact this);subst hii;clear HP HB HF1 hi;go_wp2_with (go_at_call 154;refine(HTR.o _ rfl).mono ?_;rintro e w' ⟨rfl,rfl⟩);go_ret;refine⟨_,rfl, ?_,HG.o▸HBB.o⟩;have:=Z0q (c:=m.length+1) HRD.o HV.o.2.2;rw[HV.o.1]at this;first|exact this|(rw[Nat.add_comm (val W32 m)]at this;exact this)
   have HBl:=Za (HRl.o.below (HG.o▸HB.o:Below w.heap.size w wr));have HBm:=Za (HRm.o.below (HG.o▸HB.o:Below w.heap.size w wr));obtain⟨b1,o1,hA,hb1,hc1⟩:=Z0s HBm.o (by omega);subst hA;have d1:=hc1 i hil;have x1:=HDm.o.getD (by decide) i;have y1:=HDl.o.getD (by decide) i;rw[HW.o]at x1 y1;have HST:Hid (∀s:Nat,s=c+m.getD i 0+l.getD i 0→val W32 (p++ [s % W32])+W32 ^ (i+1)*(s / W32)=val W32 (m.take (i+1))+val W32 (l.take (i+1))):=fun s hs=>(by rw[hs];exact Z6v HP.o.1 HP.o.2.2.2.1);have HDP:Hid (∀s:Nat,Ds W32 (p++ [s % W32])):=fun s=>HP.o.2.2.1.app (by intro x hx;simp at hx;subst hx;exact Nat.mod_lt _ (by decide));have HFS:Hid (∀s:Nat,Z1h (wr.setCell ⟨G,i,none⟩ (.int .u32 ((s % W32:Nat):Int))) G (p++ [s % W32]) n):=fun s=>(by have:=HP.o.2.2.2.2.set (s % W32);rw[HP.o.1]at this;exact this);have HLN:Hid (∀s:Nat,(p++ [s % W32]).length=i+1∧i+1+n=m.length+1):=fun s=>⟨by simp[HP.o.1],by have:=HP.o.2.1;omega⟩;have HBS:Hid (∀u,Below G w (wr.setCell ⟨G,i,none⟩ u)):=fun u=>HB.o.setCell (p:=⟨G,i,none⟩) (Zh _) u;by_cases him:i<l.length
   ·
    obtain⟨b2,o2,hA2,hb2,hc2⟩:=Z0s HBl.o (by omega);subst hA2;have d2:=hc2 i him;clear hc1 hc2 HBl HBm HP HB;generalize m.getD i 0=x at*;generalize l.getD i 0=y at*;obtain⟨s,hs⟩:∃s:Nat,s=c+x+y:=⟨_,rfl⟩;have HE:Hid ((c:Int)+x+y=(s:Int)):=(by show _=_;omega);have hs1:s<8589934592:=(by omega);have HS:=Za (HST.o s hs);have hq:s / W32≤1:=(by rw[HW.o];omega);have HQ:=Za hq;clear hs HST hq
    go_wp2
    rw[HE.o,Z9a,Z9b];go_roundw
    case rel=>exact⟨i+1,s / W32,p++ [s % W32],n,by omega,by go_num,rfl,HQ.o,⟨(HLN.o s).1,(HLN.o s).2,HDP.o s,HS.o,HFS.o s⟩,HBS.o _⟩
    case measure=>simp[intOf];omega
   ·
    have y0:l.getD i 0=0:=(by rw[Zg,List.getElem?_eq_none (by omega)];rfl);clear hc1 HBl HBm HP HB;generalize m.getD i 0=x at*;generalize l.getD i 0=y at*;subst y0;obtain⟨s,hs⟩:∃s:Nat,s=c+x+0:=⟨_,rfl⟩;have HE:Hid ((c:Int)+x=(s:Int)):=(by show _=_;omega);have hs1:s<8589934592:=(by omega);have HS:=Za (HST.o s hs);have hq:s / W32≤1:=(by rw[HW.o];omega);have HQ:=Za hq;clear hs HST hq
    go_wp2
    rw[HE.o,Z9a,Z9b];go_roundw
    case rel=>exact⟨i+1,s / W32,p++ [s % W32],n,by omega,by go_num,rfl,HQ.o,⟨(HLN.o s).1,(HLN.o s).2,HDP.o s,HS.o,HFS.o s⟩,HBS.o _⟩
    case measure=>simp[intOf];omega
def SubRes (a b:Nat)(w:World)(e:Ending)(w':World):Prop:=∃v,e= .returned v∧Z09 w' v (a - b)∧Below w.heap.size w w'
theorem Zac (va vb:Value)(a b:Nat)(w:World)(h:Z09 w va a)(g:Z09 w vb b)(k:Nat)(hk:Lim k a)(hab:b≤a)(hk2:k≤549755813888):
  Calls Tryz.prog 175 #[va,vb] w (SubRes a b w):=by
 obtain⟨A,c,l,rfl,hr,hn,rfl⟩:=h;obtain⟨B,d,m,rfl,gr,gn,rfl⟩:=g;have hL:=Lim.len hn hk;have gL:=Lim.len gn (hk.le hab)
 have hml:m.length≤l.length:=by
  rcases Nat.lt_or_ge l.length m.length with h1|h1
  · have:=Nm.lt_of_len (by decide) hn.1 gn h1;omega
  · exact h1
 have HDl:=Za hn.1;have HDm:=Za gn.1;have HRl:=Za hr;have HRm:=Za gr;have hw:W32=4294967296:=rfl;have HW:=Za hw;have HAB:=Za hab;clear hr gr hn gn hk hw hab;have hmk:=Z2x l.length l.length rfl (by omega) w;obtain⟨w1,hw1⟩:∃w1,w1=w.alloc (.cells (zs l.length (.int .u32 0)).toArray 177):=⟨_,rfl⟩;have HF0:Hid (Z1h w1 w.heap.size [] l.length):=by rw[hw1];exact Z1h.start w _
 have HB0:Hid (Below w.heap.size w w1):=by rw[hw1];exact(Zm _ _).alloc (Zh _) _
 rw[←hw1]at hmk;clear hw1;generalize hG:w.heap.size=G at*;have HG:=Za hG;clear hG;go_enter Tryz.func175,Tryz.ntmps175
 go_wp2
 clear hmk
 go_loopw [6,7,13] (fun cv _ iv wr=>∃(i o:Nat) (p:List Nat) (n:Nat),i≤l.length∧iv= .int .i64 (i:Int)∧cv= .int .i64 (-(o:Int))∧o≤1∧Hid (p.length=i∧i+n=l.length∧Ds W32 p∧val W32 p+val W32 (m.take i)=val W32 (l.take i)+W32 ^ i*o∧Z1h wr G p n)∧Hid (Below G w wr)) (fun _ _ iv _=>l.length - (intOf iv).toNat)
 case atStart=>exact⟨0,0,[],l.length,Nat.zero_le _,rfl,rfl,by omega,⟨rfl,by omega,Ds.nil,by simp[val],HF0.o⟩,HB0.o⟩
 case round=>
  obtain⟨i,o,p,n,hi,rfl,rfl,ho,HP,HB⟩:=hrel;by_cases hil:i<l.length
  case neg=>
   have hii:i=l.length:=by omega
   have HV:Hid (val W32 p=val W32 l - val W32 m∧p.length=l.length∧Ds W32 p):=by
    obtain⟨q1,q2,q3,q4,q5⟩:=HP.o;refine⟨?_,by omega,q3⟩;rw[Zl (by omega),Zl (by omega)]at q4;have h1:=Z2z (by decide) q3;rw[q1]at h1;have h2:=HAB.o
    have h3:o=0:=by
     rcases Nat.eq_zero_or_pos o with e|e
     · exact e
     · have:o=1:=(by omega);subst this;omega
    subst h3;omega
   have HRD:Hid (Rd wr (some ⟨G,0,none⟩) (uc p)):=(by show Rd _ _ _;have hn0:n=0:=(by have:=HP.o.2.1;omega);subst hn0;have:=Blk.rd HP.o.2.2.2.2;simpa using this);have HTR:Hid (∀W,W=wr→Calls Tryz.prog 154 #[.slice (some ⟨G,0,none⟩) l.length l.length] W fun e w'=>e= .returned (.slice (some ⟨G,0,none⟩) (Z0f p).length l.length)∧W=w'):=fun W hW=>(by subst hW;have:=Z0w (some ⟨G,0,none⟩) l.length p _ HRD.o (by rw[HV.o.2.1];omega) (by rw[HV.o.2.1];omega) (by omega);rw[HV.o.2.1]at this;exact this);subst hii;clear HP hi;go_wp2_with (go_at_call 154;refine(HTR.o _ rfl).mono ?_;rintro e w' ⟨rfl,rfl⟩);go_ret;refine⟨_,rfl, ?_,HG.o▸HB.o⟩;have:=Z0q (c:=l.length) HRD.o HV.o.2.2;rw[HV.o.1]at this;exact this
  obtain⟨n,rfl⟩:∃n',n=n'+1:=⟨n - 1,by have:=HP.o.2.1;omega⟩;obtain⟨e1,f1⟩:=HP.o.2.2.2.2.cell;rw[HP.o.1]at e1 f1;have HBl:=Za (HRl.o.below (HG.o▸HB.o:Below w.heap.size w wr));have HBm:=Za (HRm.o.below (HG.o▸HB.o:Below w.heap.size w wr));obtain⟨b1,o1,hA,hb1,hc1⟩:=Z0s HBl.o (by omega);subst hA;have d1:=hc1 i hil;have x1:=HDl.o.getD (by decide) i;have y1:=HDm.o.getD (by decide) i;rw[HW.o]at x1 y1
  have HST:Hid (∀d o':Nat,d+m.getD i 0+o=l.getD i 0+W32*o'→val W32 (p++ [d])+val W32 (m.take (i+1))=val W32 (l.take (i+1))+W32 ^ (i+1)*o'):=fun d o' hs=>
   Z9v HP.o.1 HP.o.2.2.2.1 hs
  have HDP:Hid (∀d:Nat,d<W32→Ds W32 (p++ [d])):=fun d hd=>HP.o.2.2.1.app (by intro x hx;simp at hx;subst hx;exact hd);have HFS:Hid (∀d:Nat,Z1h (wr.setCell ⟨G,i,none⟩ (.int .u32 (d:Int))) G (p++ [d]) n):=fun d=>by have:=HP.o.2.2.2.2.set d;rw[HP.o.1]at this;exact this
  have HLN:Hid (∀d:Nat,(p++ [d]).length=i+1∧i+1+n=l.length):=fun d=>⟨by simp[HP.o.1],by have:=HP.o.2.1;omega⟩;have HBS:Hid (∀u,Below G w (wr.setCell ⟨G,i,none⟩ u)):=fun u=>HB.o.setCell (p:=⟨G,i,none⟩) (Zh _) u;by_cases him:i<m.length
  ·
   obtain⟨b2,o2,hA2,hb2,hc2⟩:=Z0s HBm.o (by omega);subst hA2;have d2:=hc2 i him;clear hc1 hc2 HBl HBm HP HB;generalize l.getD i 0=x at*;generalize m.getD i 0=y at*;obtain⟨d,o',hd1,hd2,hd3,hd4,hd5⟩:=Zd8 (-(o:Int)+x - y) (by omega) (by omega);have ho':o'≤1:=(by have:=HW.o;omega);have HS:=Za (HST.o d o' (by rw[HW.o];omega));have HD1:=Za hd1;have HD2:=Za hd2;have HD3:=Za hd3;clear HST hd1 hd2 hd3 hd4
   go_wp2
   rw[HD1.o,HD2.o];go_roundw
   case rel=>exact⟨i+1,o',p++ [d],n,by omega,by go_num,rfl,ho',⟨(HLN.o d).1,(HLN.o d).2,HDP.o d HD3.o,HS.o,HFS.o d⟩,HBS.o _⟩
   case measure=>simp[intOf];omega
  ·
   have y0:m.getD i 0=0:=(by rw[Zg,List.getElem?_eq_none (by omega)];rfl);clear hc1 HBl HBm HP HB;generalize l.getD i 0=x at*;generalize m.getD i 0=y at*;subst y0;obtain⟨d,o',hd1,hd2,hd3,hd4,hd5⟩:=Zd8 (-(o:Int)+x) (by omega) (by omega);have ho':o'≤1:=(by have:=HW.o;omega);have HS:=Za (HST.o d o' (by rw[HW.o];omega));have HD1:=Za hd1;have HD2:=Za hd2;have HD3:=Za hd3;clear HST hd1 hd2 hd3 hd4
   go_wp2
   rw[HD1.o,HD2.o];go_roundw
   case rel=>exact⟨i+1,o',p++ [d],n,by omega,by go_num,rfl,ho',⟨(HLN.o d).1,(HLN.o d).2,HDP.o d HD3.o,HS.o,HFS.o d⟩,HBS.o _⟩
   case measure=>simp[intOf];omega
def Zad (a b:Nat)(w:World)(e:Ending)(w':World):Prop:=∃v,e= .returned v∧Z09 w' v (a*b)∧Below w.heap.size w w'
theorem val4 (q:Nat)(h:q<340282366920938463463374607431768211456):
  Ds W32 [q % 18446744073709551616 % 4294967296,q % 18446744073709551616 / 4294967296,q / 18446744073709551616 % 4294967296,q / 18446744073709551616 / 4294967296]∧
  val W32 [q % 18446744073709551616 % 4294967296,q % 18446744073709551616 / 4294967296,q / 18446744073709551616 % 4294967296,q / 18446744073709551616 / 4294967296]=q:=by
 refine⟨?_, ?_⟩
 · intro d hd;simp only[List.mem_cons,List.not_mem_nil,or_false]at hd;show d<4294967296;rcases hd with rfl|rfl|rfl|rfl<;>omega
 · show q % 18446744073709551616 % 4294967296+4294967296*(q % 18446744073709551616 / 4294967296+4294967296*(q / 18446744073709551616 % 4294967296+4294967296*(q / 18446744073709551616 / 4294967296+4294967296*0)))=q;omega
theorem Zbp (va vb:Value)(a b:Nat)(w:World)(h:Z09 w va a)(g:Z09 w vb b)(ha:a<18446744073709551616)(hb:b<18446744073709551616):
  Calls Tryz.prog 118 #[va,vb] w (Zad a b w):=by
 have HSA:Hid (∀W,Below w.heap.size w W→Calls Tryz.prog 152 #[va] W fun e w'=>e= .returned (.tuple #[.int .u64 (a:Int),.bool true])∧Qd W w'):=fun W hW=>by have:=Z0z va a W (h.below hW);rw[(Z3u ha).1,(Z3u ha).2]at this;exact this
 have HSB:Hid (∀W,Below w.heap.size w W→Calls Tryz.prog 152 #[vb] W fun e w'=>e= .returned (.tuple #[.int .u64 (b:Int),.bool true])∧Qd W w'):=fun W hW=>by have:=Z0z vb b W (g.below hW);rw[(Z3u hb).1,(Z3u hb).2]at this;exact this
 have hq:a*b<340282366920938463463374607431768211456:=by have:=Nat.mul_lt_mul'' ha hb;exact this
 have HML:Hid (∀W,Calls Tryz.prog 153 #[.int .u64 (a:Int),.int .u64 (b:Int)] W fun e w'=>e= .returned (.tuple #[.int .u64 ((a*b / 18446744073709551616:Nat):Int),.int .u64 ((a*b % 18446744073709551616:Nat):Int)])∧w'=W):=fun W=>Any.bits_Mul64 Tryz.lays264 a b ha hb W;have HP:Hid (Zad a b w=fun e w'=>∃v,e= .returned v∧Z09 w' v (a*b)∧Below w.heap.size w w'):=rfl;rw[HP.o];clear HP h g ha hb;generalize a*b=q at*;obtain⟨hD,hV⟩:=val4 q hq;have HD:=Za hD;have HV:=Za hV;obtain⟨lo,hlo⟩:∃lo:Nat,lo=q % 18446744073709551616:=⟨_,rfl⟩;obtain⟨hi,hhi⟩:∃hi:Nat,hi=q / 18446744073709551616:=⟨_,rfl⟩;have l1:lo<18446744073709551616:=by omega
 have l2:hi<18446744073709551616:=by omega
 rw[←hlo,←hhi]at HML HD HV;clear hlo hhi hD hV hq;have HRD:Hid (∀W:World,Rd (W.alloc (.cells #[.int .u32 ((lo:Int) % 4294967296),.int .u32 ((lo:Int) / 4294967296),.int .u32 ((hi:Int) % 4294967296),.int .u32 ((hi:Int) / 4294967296)] 177)) (some ⟨W.heap.size,0,none⟩) (uc [lo % 4294967296,lo / 4294967296,hi % 4294967296,hi / 4294967296])):=fun W=>by have:=Blk.rd (Blk.new W 177 (uc [lo % 4294967296,lo / 4294967296,hi % 4294967296,hi / 4294967296]));simpa [uc]using this
 have HQ:Hid (∀W W',Below w.heap.size w W→Qd W W'→Below w.heap.size w W'):=fun W W' h1 h2=>h1.trans (h2.below.mono h1.size);go_enter Tryz.func118,Tryz.ntmps118;go_wp2_with fail;refine(HSA.o _ (Zm _ _)).mono ?_;rintro e w2 ⟨rfl,hq2⟩;have hb2:=Za (HQ.o _ _ (Zm _ _) hq2);clear hq2;go_wp2_with fail;refine(HSB.o _ hb2.o).mono ?_;rintro e w3 ⟨rfl,hq3⟩;have hb3:=Za (HQ.o _ _ hb2.o hq3);clear hq3;go_wp2_with fail;refine(HML.o _).mono ?_;rintro e w4 ⟨rfl,rfl⟩;go_wp2_with (go_at_call 154;refine(Z0w _ 4 [lo % 4294967296,lo / 4294967296,hi % 4294967296,hi / 4294967296] _ (HRD.o _) (by simp) (by simp) (by omega)).mono ?_;rintro e w' ⟨rfl,rfl⟩);go_ret;refine⟨_,rfl, ?_,hb3.o.alloc hb3.o.size _⟩;have:=Z0q (c:=4) (HRD.o w4) HD.o;rw[HV.o]at this;exact this
structure MulI (w wr:World)(G g:Nat)(l m o:List Nat)(i j c:Nat):Prop where
 len:o.length=l.length+m.length
 ds:Ds W32 o
 cw:c<W32
 eq:val W32 o+W32 ^ (i+j)*c=val W32 (l.take i)*val W32 m+W32 ^ i*(l.getD i 0*val W32 (m.take j))
 zero:∀k,i+m.length≤k→o.getD k 0=0
 blk:Blk wr g 177 (uc o)
 bel:Below G w wr
theorem MulI.cell {w wr:World}{G g:Nat}{l m o:List Nat}{i j c:Nat}(h:MulI w wr G g l m o i j c){k:Nat}(hk:k<l.length+m.length):
  wr.cell? ⟨g,k,none⟩=some (.int .u32 (o.getD k 0:Nat))∧wr.frozen? ⟨g,k,none⟩=false:=by
 refine⟨?_,h.blk.frozen _⟩;rw[h.blk.cell,Z6a _ _ (by rw[h.len];exact hk)]
theorem MulI.step {w wr:World}{G g:Nat}{l m o:List Nat}{i j c:Nat}(h:MulI w wr G g l m o i j c)(hG:G≤g)(hi:i<l.length)(hj:j<m.length)(s:Nat)(hs:s=c+(l.getD i 0*m.getD j 0+o.getD (i+j) 0))(hq:s / W32<W32):
  MulI w (wr.setCell ⟨g,i+j,none⟩ (.int .u32 ((s % W32:Nat):Int))) G g l m (o.set (i+j) (s % W32)) i (j+1) (s / W32):=by
 refine⟨by simp[h.len],h.ds.set _ _ (Nat.mod_lt _ (by decide)),hq, ?_,fun k hk=> ?_, ?_,h.bel.setCell (p:=⟨g,i+j,none⟩) hG _⟩
 · have:=Z9w (B:=W32) (a:=l) (b:=m) (o:=o) (i:=i) (j:=j) (c:=c) (by rw[h.len];omega) h.eq;rw[←hs]at this;have e:i+(j+1)=i+j+1:=(Nat.add_assoc i j 1).symm;rw[e];exact this
 · rw[getD_set_ne (by omega)];exact h.zero k hk
 · rw[Z4y];exact h.blk.set_ _ _
theorem MulI.last {w wr:World}{G g:Nat}{l m o:List Nat}{i c:Nat}(h:MulI w wr G g l m o i m.length c)(hG:G≤g)(hi:i<l.length):
  MulI w (wr.setCell ⟨g,i+m.length,none⟩ (.int .u32 (c:Int))) G g l m (o.set (i+m.length) c) (i+1) 0 0:=by
 have hk:i+m.length<o.length:=by rw[h.len];omega
 refine⟨by simp[h.len],h.ds.set _ _ h.cw,by decide, ?_,fun k hk=> ?_, ?_,h.bel.setCell (p:=⟨g,i+m.length,none⟩) hG _⟩
 · exact Zcp hk (h.zero _ (Zh _)) h.eq
 · rw[getD_set_ne (by omega)];exact h.zero k (by omega)
 · rw[Z4y];exact h.blk.set_ _ _
theorem MulI.start {w wr:World}{G g:Nat}{l m o:List Nat}{i j c:Nat}(h:MulI w wr G g l m o i j c)(hj:j=0)(hc:c=0):MulI w wr G g l m o i 0 0:=by
 subst hj hc;exact h
theorem MulI.done {w wr:World}{G g:Nat}{l m o:List Nat}{i:Nat}(h:MulI w wr G g l m o i 0 0)(hi:i=l.length):val W32 o=val W32 l*val W32 m:=by
 have:=h.eq;rw[Nat.mul_zero,Nat.add_zero,List.take_zero,Zl (by omega)]at this;rw[this];simp[val]
theorem Zae (va vb:Value)(a b:Nat)(w:World)(h:Z09 w va a)(g:Z09 w vb b)(k k':Nat)(hk:Lim k a)(gk:Lim k' b)(hk2:k+k'≤549755813888)(hns:smB a=false∨(smB a=true∧smB b=false)):
  Calls Tryz.prog 118 #[va,vb] w (Zad a b w):=by
 have HSA:Hid (∀W,Below w.heap.size w W→Calls Tryz.prog 152 #[va] W fun e w'=>e= .returned (.tuple #[.int .u64 (smN a:Nat),.bool (smB a)])∧Qd W w'):=fun W hW=>Z0z va a W (h.below hW);have HSB:Hid (∀W,Below w.heap.size w W→Calls Tryz.prog 152 #[vb] W fun e w'=>e= .returned (.tuple #[.int .u64 (smN b:Nat),.bool (smB b)])∧Qd W w'):=fun W hW=>Z0z vb b W (g.below hW);generalize smN a=na at*;generalize smN b=nb at*;generalize smB a=ba at*;generalize smB b=bb at*;obtain⟨A,c,l,rfl,hr,hn,rfl⟩:=h;obtain⟨B,d,m,rfl,gr,gn,rfl⟩:=g;have hL:=Lim.len hn hk;have gL:=Lim.len gn gk;have HDl:=Za hn.1;have HDm:=Za gn.1;have HRl:=Za hr;have HRm:=Za gr;have hw:W32=4294967296:=rfl;have HW:=Za hw;clear hr gr hn gn hk gk hw;have HMK:∀W:World,(Instr.makeSlice 112 (.int .i64 ((l.length:Int)+(m.length:Int))) (.int .i64 ((l.length:Int)+(m.length:Int)))).run Tryz.prog W= .ok (.slice (some ⟨W.heap.size,0,none⟩) (l.length+m.length) (l.length+m.length)) (W.alloc (.cells (zs (l.length+m.length) (.int .u32 0)).toArray 177)):=fun W=>Z2x _ _ (by omega) (by omega) W;have HQ:Hid (∀W W',Below w.heap.size w W→Qd W W'→Below w.heap.size w W'):=fun W W' h1 h2=>h1.trans (h2.below.mono h1.size)
 have HST:Hid (∀W:World,Below w.heap.size w W→MulI w (W.alloc (.cells (zs (l.length+m.length) (.int .u32 0)).toArray 177)) w.heap.size W.heap.size l m (List.replicate (l.length+m.length) 0) 0 0 0):=fun W hW=>by
  refine⟨by simp, ?_,by decide, ?_, ?_, ?_,hW.alloc hW.size _⟩
  · intro x hx;rw[List.eq_of_mem_replicate hx];decide
  · rw[Z5j];simp[val]
  ·
   intro k _;rw[Zg];by_cases hk:k<l.length+m.length
   · simp[hk]
   · simp[hk]
  · have e:uc (List.replicate (l.length+m.length) 0)=zs (l.length+m.length) (.int .u32 0):=(by simp[uc,zs]);rw[e];exact Blk.new _ _ _
 have HGZ0:Hid (∀W:World,Below w.heap.size w W→w.heap.size≤W.heap.size):=fun W hW=>hW.size;generalize hG:w.heap.size=G at*;have HG:=Za hG;clear hG;go_enter Tryz.func118,Tryz.ntmps118;go_wp2_with fail;refine(HSA.o _ (Zm _ _)).mono ?_;rintro e w2 ⟨rfl,hq2⟩;have hb2:=Za (HQ.o _ _ (Zm _ _) hq2);clear hq2;rcases hns with rfl|⟨rfl,rfl⟩
 rotate_left
 ·
  go_wp2_with fail;refine(HSB.o _ hb2.o).mono ?_;rintro e w3 ⟨rfl,hq3⟩;have hb3:=Za (HQ.o _ _ hb2.o hq3);clear hq3 hb2;revert w3;intro w2 hb2;go_wp2_with fail;have HGZ:=Za (HGZ0.o _ hb2.o)
  go_loopw [55] (fun iv wr=>∃(i g:Nat) (o:List Nat),i≤l.length∧iv= .int .i64 (i:Int)∧G≤g∧g=w2.heap.size∧Hid (MulI w wr G g l m o i 0 0)) (fun iv _=>l.length - (intOf iv).toNat)
  case atStart=>exact⟨0,_,_,Nat.zero_le _,rfl,HGZ.o,rfl,HST.o _ hb2.o⟩
  case round=>
   obtain⟨i,g,o,hi,rfl,hGg,rfl,HI⟩:=hrel;obtain⟨wo,hwo⟩:∃wo,wo=wr:=⟨_,rfl⟩;subst hwo;by_cases hil:i<l.length
   case neg=>have hii:i=l.length:=(by omega);have HV:=Za (HI.o.done hii);have HRD:=Za (Blk.rd HI.o.blk);have HTR:Hid (∀W,W=wo→Calls Tryz.prog 154 #[.slice (some ⟨w2.heap.size,0,none⟩) (l.length+m.length) (l.length+m.length)] W fun e w'=>e= .returned (.slice (some ⟨w2.heap.size,0,none⟩) (Z0f o).length (l.length+m.length))∧W=w'):=fun W hW=>(by subst hW;have:=Z0w (some ⟨w2.heap.size,0,none⟩) (l.length+m.length) o _ HRD.o (by rw[HI.o.len];omega) (by rw[HI.o.len];omega) (by omega);rw[HI.o.len]at this;exact this);subst hii;clear hi;go_wp2_with (go_at_call 154;refine(HTR.o _ rfl).mono ?_;rintro e w' ⟨rfl,rfl⟩);go_ret;refine⟨_,rfl, ?_,HG.o▸HI.o.bel⟩;have:=Z0q (c:=l.length+m.length) HRD.o HI.o.ds;rw[HV.o]at this;exact this
   have HBl:=Za (HRl.o.below (HG.o▸HI.o.bel:Below w.heap.size w wo));obtain⟨b1,o1,hA,hb1,hc1⟩:=Z0s HBl.o (by omega);subst hA;have d1:=hc1 i hil;have x1:=HDl.o.getD (by decide) i;rw[HW.o]at x1;have HX:Hid (∃x,x=l.getD i 0):=⟨_,rfl⟩;obtain⟨x,hx⟩:=HX.o;rw[←hx]at d1 x1;have HX:=Za hx;clear hc1 hx HBl;go_wp2_with fail;clear d1
   go_loopw [14,62] (fun cv jv wr=>∃(j c:Nat) (o:List Nat),j≤m.length∧jv= .int .i64 (j:Int)∧cv= .int .u64 (c:Int)∧c<4294967296∧Hid (MulI w wr G w2.heap.size l m o i j c)) (fun _ jv _=>m.length - (intOf jv).toNat)
   case atStart=>exact⟨0,0,o,Nat.zero_le _,rfl,rfl,by omega,HI.o⟩
   case round=>
    obtain⟨j,c2,o2,hj,rfl,rfl,hc2,HJ⟩:=hrel;by_cases hjl:j<m.length
    case neg=>
     have hjj:j=m.length:=(by omega);subst hjj;obtain⟨e1,f1⟩:=HJ.o.cell (k:=i+m.length) (by omega);have HJ2:=Za (HJ.o.last hGg hil)
     go_wp2
     go_roundw
     case rel=>exact⟨i+1,_,_,by omega,by go_num,hGg,rfl,HJ2.o⟩
     case measure=>simp[intOf];omega
    have HBm:=Za (HRm.o.below (HG.o▸HJ.o.bel:Below w.heap.size w wr));obtain⟨b2,o2',hA2,hb2',hcm⟩:=Z0s HBm.o (by omega);subst hA2;have d2:=hcm j hjl;have y1:=HDm.o.getD (by decide) j;rw[HW.o]at y1;obtain⟨e1,f1⟩:=HJ.o.cell (k:=i+j) (by omega);have q1:=HJ.o.ds.getD (by decide) (i+j);rw[HW.o]at q1;have HSTP:Hid (∀s:Nat,s=c2+(x*m.getD j 0+o2.getD (i+j) 0)→s / W32<W32→MulI w (wr.setCell ⟨w2.heap.size,i+j,none⟩ (.int .u32 ((s % W32:Nat):Int))) G w2.heap.size l m (o2.set (i+j) (s % W32)) i (j+1) (s / W32)):=fun s hs hq=>HJ.o.step hGg hil hjl s (by rw[←HX.o];exact hs) hq;clear hcm HBm HJ;generalize m.getD j 0=y at*;generalize o2.getD (i+j) 0=z at*;obtain⟨hm1,hm2⟩:=Z6c (B:=4294967296) x1 y1 hc2 q1;obtain⟨xy,hxy⟩:∃xy:Nat,xy=x*y:=⟨_,rfl⟩;rw[←hxy]at HSTP hm1 hm2;have HXY:Hid ((x:Int)*(y:Int)=(xy:Int)):=(by show _=_;rw[hxy];exact(Int.natCast_mul x y).symm);clear hxy;obtain⟨s,hs⟩:∃s:Nat,s=c2+(xy+z):=⟨_,rfl⟩;have HJ2:=Za (HSTP.o s hs (by rw[HW.o];rw[hs];exact hm2));have HSS:Hid ((c2:Int)+((xy:Int)+z)=(s:Int)):=(by show _=_;omega);have hs2:s / W32<4294967296:=(by rw[HW.o,hs];exact hm2);have HS2:=Za hs2;have hxy1:xy<18446744073709551616:=(by omega);have hs1:c2+(xy+z)<18446744073709551616:=(by omega);clear HSTP hm1 hm2 hs2;have HMW:IntKind.u64.wrap ((x:Int)*(y:Int))=(xy:Int):=by rw[HXY.o];exact IntWalk.u64_in _ (by omega)
    go_wp2
    rw[HSS.o,Z9a,Z9b];go_roundw
    case rel=>exact⟨j+1,s / W32,_,by omega,by go_num,rfl,HS2.o,HJ2.o⟩
    case measure=>simp[intOf];omega
 ·
  go_wp2_with fail;have HGZ:=Za (HGZ0.o _ hb2.o)
  go_loopw [55] (fun iv wr=>∃(i g:Nat) (o:List Nat),i≤l.length∧iv= .int .i64 (i:Int)∧G≤g∧g=w2.heap.size∧Hid (MulI w wr G g l m o i 0 0)) (fun iv _=>l.length - (intOf iv).toNat)
  case atStart=>exact⟨0,_,_,Nat.zero_le _,rfl,HGZ.o,rfl,HST.o _ hb2.o⟩
  case round=>
   obtain⟨i,g,o,hi,rfl,hGg,rfl,HI⟩:=hrel;obtain⟨wo,hwo⟩:∃wo,wo=wr:=⟨_,rfl⟩;subst hwo;by_cases hil:i<l.length
   case neg=>have hii:i=l.length:=(by omega);have HV:=Za (HI.o.done hii);have HRD:=Za (Blk.rd HI.o.blk);have HTR:Hid (∀W,W=wo→Calls Tryz.prog 154 #[.slice (some ⟨w2.heap.size,0,none⟩) (l.length+m.length) (l.length+m.length)] W fun e w'=>e= .returned (.slice (some ⟨w2.heap.size,0,none⟩) (Z0f o).length (l.length+m.length))∧W=w'):=fun W hW=>(by subst hW;have:=Z0w (some ⟨w2.heap.size,0,none⟩) (l.length+m.length) o _ HRD.o (by rw[HI.o.len];omega) (by rw[HI.o.len];omega) (by omega);rw[HI.o.len]at this;exact this);subst hii;clear hi;go_wp2_with (go_at_call 154;refine(HTR.o _ rfl).mono ?_;rintro e w' ⟨rfl,rfl⟩);go_ret;refine⟨_,rfl, ?_,HG.o▸HI.o.bel⟩;have:=Z0q (c:=l.length+m.length) HRD.o HI.o.ds;rw[HV.o]at this;exact this
   have HBl:=Za (HRl.o.below (HG.o▸HI.o.bel:Below w.heap.size w wo));obtain⟨b1,o1,hA,hb1,hc1⟩:=Z0s HBl.o (by omega);subst hA;have d1:=hc1 i hil;have x1:=HDl.o.getD (by decide) i;rw[HW.o]at x1;have HX:Hid (∃x,x=l.getD i 0):=⟨_,rfl⟩;obtain⟨x,hx⟩:=HX.o;rw[←hx]at d1 x1;have HX:=Za hx;clear hc1 hx HBl;go_wp2_with fail;clear d1
   go_loopw [14,62] (fun cv jv wr=>∃(j c:Nat) (o:List Nat),j≤m.length∧jv= .int .i64 (j:Int)∧cv= .int .u64 (c:Int)∧c<4294967296∧Hid (MulI w wr G w2.heap.size l m o i j c)) (fun _ jv _=>m.length - (intOf jv).toNat)
   case atStart=>exact⟨0,0,o,Nat.zero_le _,rfl,rfl,by omega,HI.o⟩
   case round=>
    obtain⟨j,c2,o2,hj,rfl,rfl,hc2,HJ⟩:=hrel;by_cases hjl:j<m.length
    case neg=>
     have hjj:j=m.length:=(by omega);subst hjj;obtain⟨e1,f1⟩:=HJ.o.cell (k:=i+m.length) (by omega);have HJ2:=Za (HJ.o.last hGg hil)
     go_wp2
     go_roundw
     case rel=>exact⟨i+1,_,_,by omega,by go_num,hGg,rfl,HJ2.o⟩
     case measure=>simp[intOf];omega
    have HBm:=Za (HRm.o.below (HG.o▸HJ.o.bel:Below w.heap.size w wr));obtain⟨b2,o2',hA2,hb2',hcm⟩:=Z0s HBm.o (by omega);subst hA2;have d2:=hcm j hjl;have y1:=HDm.o.getD (by decide) j;rw[HW.o]at y1;obtain⟨e1,f1⟩:=HJ.o.cell (k:=i+j) (by omega);have q1:=HJ.o.ds.getD (by decide) (i+j);rw[HW.o]at q1;have HSTP:Hid (∀s:Nat,s=c2+(x*m.getD j 0+o2.getD (i+j) 0)→s / W32<W32→MulI w (wr.setCell ⟨w2.heap.size,i+j,none⟩ (.int .u32 ((s % W32:Nat):Int))) G w2.heap.size l m (o2.set (i+j) (s % W32)) i (j+1) (s / W32)):=fun s hs hq=>HJ.o.step hGg hil hjl s (by rw[←HX.o];exact hs) hq;clear hcm HBm HJ;generalize m.getD j 0=y at*;generalize o2.getD (i+j) 0=z at*;obtain⟨hm1,hm2⟩:=Z6c (B:=4294967296) x1 y1 hc2 q1;obtain⟨xy,hxy⟩:∃xy:Nat,xy=x*y:=⟨_,rfl⟩;rw[←hxy]at HSTP hm1 hm2;have HXY:Hid ((x:Int)*(y:Int)=(xy:Int)):=(by show _=_;rw[hxy];exact(Int.natCast_mul x y).symm);clear hxy;obtain⟨s,hs⟩:∃s:Nat,s=c2+(xy+z):=⟨_,rfl⟩;have HJ2:=Za (HSTP.o s hs (by rw[HW.o];rw[hs];exact hm2));have HSS:Hid ((c2:Int)+((xy:Int)+z)=(s:Int)):=(by show _=_;omega);have hs2:s / W32<4294967296:=(by rw[HW.o,hs];exact hm2);have HS2:=Za hs2;have hxy1:xy<18446744073709551616:=(by omega);have hs1:c2+(xy+z)<18446744073709551616:=(by omega);clear HSTP hm1 hm2 hs2;have HMW:IntKind.u64.wrap ((x:Int)*(y:Int))=(xy:Int):=by rw[HXY.o];exact IntWalk.u64_in _ (by omega)
    go_wp2
    rw[HSS.o,Z9a,Z9b];go_roundw
    case rel=>exact⟨j+1,s / W32,_,by omega,by go_num,rfl,HS2.o,HJ2.o⟩
    case measure=>simp[intOf];omega
theorem Z7a (va vb:Value)(a b:Nat)(w:World)(h:Z09 w va a)(g:Z09 w vb b)(k k':Nat)(hk:Lim k a)(gk:Lim k' b)(hk2:k+k'≤549755813888):
  Calls Tryz.prog 118 #[va,vb] w (Zad a b w):=by
 by_cases ha:a<18446744073709551616
 ·
  by_cases hb:b<18446744073709551616
  · exact Zbp va vb a b w h g ha hb
  · exact Zae va vb a b w h g k k' hk gk hk2 (.inr ⟨(Z3u ha).2,(Z98 (by omega)).2⟩)
 · exact Zae va vb a b w h g k k' hk gk hk2 (.inl (Z98 (by omega)).2)
end Go.Proofs.YtcemlhbfemenpaaGreatDoor
