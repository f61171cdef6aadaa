/- Several texts laid into one: The contract of (num.Nat).divWord; The contract of (num.Nat).left; The contract of (num.Nat).step; The contract of (num.Nat).step: the walk; The contract of (num.Nat).Div: the short ways; What holds while (num.Nat).Div runs; The contract of (num.Nat).Div: the long way; The contract of (num.Nat).Div: the long way, the walk; The contract of num.gcd; The contract of num.natText; The contract of num.natText: the walk; -/
import Derived.Test.YtcemlhbfemenpaaGreatDoorNumB
import Derived.Test.YtcemlhbfemenpaaGreatDoorShNum
import Derived.Laws.CopyOwn
import Derived.Deep.DrawnRows
import Derived.StillTailTactics
import Derived.Lib.IndexBytes
set_option maxHeartbeats 16000000
set_option maxRecDepth 100000
namespace Go.Proofs.YtcemlhbfemenpaaGreatDoor
open Go.RowKit Go.Dw
theorem Zdc (a b:Nat)(ha:a<4294967296)(hb:b<4294967296):bits .or .u64 ((b:Int)*4294967296) (a:Int)=((b*4294967296+a:Nat):Int):=by
 unfold bits;show IntKind.u64.wrap (((BitVec.ofInt 64 ((b:Int)*4294967296)|||BitVec.ofInt 64 (a:Int)).toNat:Nat):Int)=_;have e:((b:Int)*4294967296)=((b*4294967296:Nat):Int):=by omega
 rw[e,BitVec.ofInt_natCast,BitVec.ofInt_natCast,BitVec.toNat_or,BitVec.toNat_ofNat,BitVec.toNat_ofNat,Nat.mod_eq_of_lt (by omega),Nat.mod_eq_of_lt (by omega)];have h1:b*4294967296|||a=b*4294967296+a:=by rw[Nat.mul_comm b];exact(Nat.two_pow_add_eq_or_of_lt (i:=32) (by simpa using ha) b).symm
 rw[h1];exact IntWalk.u64_in _ (by omega)
structure DwI (w wr:World)(G:Nat)(l:List Nat)(b k r:Nat)(qd:List Nat):Prop where
 len:k+qd.length=l.length
 ds:Ds W32 qd
 rlt:r<b
 eq:val W32 (l.drop k)=val W32 qd*b+r
 blk:Blk wr G 177 (uc (List.replicate k 0++qd))
 bel:Below G w wr
theorem DwI.cell {w wr:World}{G:Nat}{l qd:List Nat}{b k r:Nat}(h:DwI w wr G l b (k+1) r qd):(∃v,wr.cell? ⟨G,k,none⟩=some v)∧wr.frozen? ⟨G,k,none⟩=false:=by
 refine⟨⟨.int .u32 ((List.replicate (k+1) 0++qd).getD k 0:Nat), ?_⟩,h.blk.frozen _⟩;rw[h.blk.cell,Z6a _ _ (by simp;omega)]
theorem Zdd (k d:Nat)(q:List Nat):(List.replicate (k+1) 0++q).set k d=List.replicate k 0++d::q:=by
 rw[List.replicate_succ',List.append_assoc,List.set_append_right _ _ (by simp)];simp
theorem DwI.step {w wr:World}{G:Nat}{l qd:List Nat}{b k r:Nat}(h:DwI w wr G l b (k+1) r qd)(hb:0<b)(hG:G=w.heap.size)(s:Nat)(hs:s=r*W32+l.getD k 0)(hq:s / b<W32):
  DwI w (wr.setCell ⟨G,k,none⟩ (.int .u32 ((s / b:Nat):Int))) G l b k (s % b) ((s / b)::qd):=by
 have hk:k<l.length:=by have:=h.len;omega
 refine⟨by have:=h.len;simp;omega, ?_,Nat.mod_lt _ hb, ?_, ?_,h.bel.setCell (p:=⟨G,k,none⟩) (by rw[hG];exact Zh _) _⟩
 ·
  intro x hx;rcases List.mem_cons.1 hx with e|e
  · rw[e];exact hq
  · exact h.ds x e
 · rw[hs];exact Zcq hk h.eq
 · have:=h.blk.set_ k (.int .u32 ((s / b:Nat):Int));rw[←Z4y,Zdd]at this;exact this
def Z53 (a b:Nat)(w:World)(e:Ending)(w':World):Prop:=∃v1 v2,e= .returned (.tuple #[v1,v2])∧Z09 w' v1 (a / b)∧Z09 w' v2 (a % b)∧Below w.heap.size w w'
def DwF (a b:Nat)(w:World)(e:Ending)(w':World):Prop:=∃v1 v2,e= .returned (.tuple #[v1,v2])∧Z09 w' v1 (a / b)∧Z09 w' v2 (a % b)∧Below w.heap.size w w'∧∀g,v1.ownBlock=some g→w.heap.size≤g
theorem Z4z (va:Value)(a b:Nat)(w:World)(h:Z09 w va a)(k:Nat)(hk:Lim k a)(hk2:k≤549755813888)(hb0:0<b)(hb1:b≤4294967296):
  Calls Tryz.prog 177 #[va,.int .u64 (b:Int)] w (DwF a b w):=by
 obtain⟨A,c,l,rfl,hr,hn,rfl⟩:=h;have hL:=Lim.len hn hk;have HDl:=Za hn.1;have HRl:=Za hr;have hw:W32=4294967296:=rfl;have HW:=Za hw;clear hr hn hk hw;have hmk:=Z2x l.length l.length rfl (by omega) w;obtain⟨w1,hw1⟩:∃w1,w1=w.alloc (.cells (zs l.length (.int .u32 0)).toArray 177):=⟨_,rfl⟩;have HI0:Hid (DwI w w1 w.heap.size l b l.length 0 []):=by rw[hw1];refine⟨by simp,Ds.nil,hb0,by simp[val], ?_,(Zm _ _).alloc (Zh _) _⟩;have e:uc (List.replicate l.length 0++ [])=zs l.length (.int .u32 0):=(by simp[uc,zs]);rw[e];exact Blk.new _ _ _
 rw[←hw1]at hmk;clear hw1;generalize hG:w.heap.size=G at*;have HG:=Za hG;clear hG;have hbz:(1:Int)≤(b:Int):=by omega
 go_enter Tryz.func177,Tryz.ntmps177
 go_wp2
 clear hmk
 go_loopw [7,8] (fun rv kv wr=>∃(k r:Nat) (qd:List Nat),((∃j:Nat,kv= .int .i64 (j:Int)∧k=j+1)∨(kv= .int .i64 (-1)∧k=0))∧k≤l.length∧rv= .int .u64 (r:Int)∧r<b∧Hid (DwI w wr G l b k r qd)) (fun _ kv _=>(intOf kv+1).toNat)
 case atStart=>
  refine⟨l.length,0,[], ?_,Zh _,rfl,hb0,HI0.o⟩;cases hh:l.length with
  |zero=>exact .inr ⟨by simp,rfl⟩
  |succ K=>exact .inl ⟨K,by go_num,rfl⟩
 case round=>
  obtain⟨k,r,qd,hkv,hkl,rfl,hrb,HI⟩:=hrel;rcases hkv with⟨j,rfl,rfl⟩|⟨rfl,rfl⟩
  ·
   have HBl:=Za (HRl.o.below (HG.o▸HI.o.bel:Below w.heap.size w wr));obtain⟨b1,o1,hA,hb1',hc1⟩:=Z0s HBl.o (by omega);subst hA;have d1:=hc1 j (by omega);have x1:=HDl.o.getD (by decide) j;rw[HW.o]at x1;obtain⟨⟨v0,e1⟩,f1⟩:=HI.o.cell;have HSTP:Hid (∀s:Nat,s=r*W32+l.getD j 0→s / b<W32→DwI w (wr.setCell ⟨G,j,none⟩ (.int .u32 ((s / b:Nat):Int))) G l b j (s % b) ((s / b)::qd)):=fun s hs hq=>HI.o.step hb0 HG.o.symm s hs hq;rw[HW.o]at HSTP;clear hc1 HBl HI;generalize l.getD j 0=x at*;have ho:=Zdc x r x1 (by omega);have hbd:=Zcr (B:=4294967296) hrb x1;obtain⟨s,hs⟩:∃s:Nat,s=r*4294967296+x:=⟨_,rfl⟩;have HI2:=Za (HSTP.o s hs (by rw[hs];exact hbd));rw[←hs]at ho hbd;have hs2:s<18446744073709551616:=(by omega);have hmod:=Nat.mod_lt s hb0;have hdq:(s:Int) / (b:Int)=((s / b:Nat):Int):=(Int.natCast_ediv s b).symm;have HDR:Hid ((s:Int) % (b:Int)=((s % b:Nat):Int)):=(Int.natCast_emod s b).symm;clear HSTP hs;generalize s / b=q' at*;generalize s % b=r' at*
   go_wp2
   go_roundw
   case rel=>
    refine⟨j,r',q'::qd, ?_,by omega,congrArg (Value.int IntKind.u64) HDR.o,hmod,HI2.o⟩;cases j with
    |zero=>exact .inr ⟨by simp,rfl⟩
    |succ j=>exact .inl ⟨j,by go_num,rfl⟩
   case measure=>simp[intOf]
  ·
   have HV:Hid (val W32 l / b=val W32 qd∧val W32 l % b=r):=(by have:=HI.o.eq;rw[List.drop_zero]at this;exact Z5l this hrb);have HLQ:Hid (qd.length=l.length):=(by show _=_;have:=HI.o.len;omega);have HRD:Hid (Rd wr (some ⟨G,0,none⟩) (uc qd)):=(by show Rd _ _ _;have:=Blk.rd HI.o.blk;simpa using this);have HTR:Hid (∀W,W=wr→Calls Tryz.prog 154 #[.slice (some ⟨G,0,none⟩) l.length l.length] W fun e w'=>e= .returned (.slice (some ⟨G,0,none⟩) (Z0f qd).length l.length)∧W=w'):=fun W hW=>(by subst hW;have:=Z0w (some ⟨G,0,none⟩) l.length qd _ HRD.o (by rw[HLQ.o];omega) (by rw[HLQ.o];omega) (by omega);rw[HLQ.o]at this;exact this);have HNV:Hid (Z09 wr (.slice (some ⟨G,0,none⟩) (Z0f qd).length l.length) (val W32 qd)):=Z0q HRD.o HI.o.ds;have HNO:Hid (Calls Tryz.prog 176 #[.int .u64 (r:Int)] wr fun e w'=>∃v,e= .returned v∧Z09 w' v r∧Below wr.heap.size wr w'):=Z3a r wr (by omega);have HB:=Za HI.o.bel;clear HI hkl;go_wp2_with (first|(go_at_call 154;refine(HTR.o _ rfl).mono ?_;rintro e w' ⟨rfl,rfl⟩)|(go_at_call 176;refine HNO.o.mono ?_;rintro e w' ⟨v2,rfl,hv2,hbw⟩))
   go_ret2
   refine⟨_,_,rfl, ?_, ?_, ?_,fun g hg=> ?_⟩
   · rw[HV.o.1];exact HNV.o.below hbw
   · rw[HV.o.2];exact hv2
   · rw[HG.o];exact HB.o.trans (hbw.mono (by have:=HB.o.size;rw[HG.o]at this;exact this))
   · injection hg with hg;rw[HG.o];exact Nat.le_of_eq hg
theorem Z9c (va:Value)(a b:Nat)(w:World)(h:Z09 w va a)(k:Nat)(hk:Lim k a)(hk2:k≤549755813888)(hb0:0<b)(hb1:b≤4294967296):
  Calls Tryz.prog 177 #[va,.int .u64 (b:Int)] w (Z53 a b w):=
 (Z4z va a b w h k hk hk2 hb0 hb1).mono fun _ _ ⟨v1,v2,h1,h2,h3,h4,_⟩=>⟨v1,v2,h1,h2,h3,h4⟩
theorem Z82 {y m c:Nat}(hm:m∣4294967296)(hy:m∣y)(hc:c<m):(y+c) % 4294967296=y % 4294967296+c∧(y+c) / 4294967296=y / 4294967296:=by
 have h1:m∣y % 4294967296:=(Nat.dvd_mod_iff hm).2 hy;have h2:y % 4294967296+c<4294967296:=by obtain⟨p,hp⟩:=h1;obtain⟨q,hq⟩:=hm;have h3:y % 4294967296<4294967296:=Nat.mod_lt _ (by omega);rw[hp]at h3⊢;rw[hq]at h3⊢;have h4:p<q:=Nat.lt_of_mul_lt_mul_left h3;have h5:=Nat.mul_le_mul_left m (show p+1≤q from h4);rw[Nat.mul_add]at h5;omega
 omega
theorem or_nat32 (c y s:Nat)(hs:s<32)(hc:c<2 ^ s)(hy:2 ^ s∣y):bits .or .u32 (c:Int) ((y:Int) % 4294967296)=(((y+c) % 4294967296:Nat):Int):=by
 have hm:2 ^ s∣4294967296:=by have:(4294967296:Nat)=2 ^ 32:=rfl;rw[this];exact Nat.pow_dvd_pow 2 (by omega)
 have hl:=(Z82 hm hy hc).1;have h0:(y+c) % 4294967296<4294967296:=Nat.mod_lt _ (by omega);have h1:2 ^ s∣y % 4294967296:=(Nat.dvd_mod_iff hm).2 hy;unfold bits;show IntKind.u32.wrap (((BitVec.ofInt 32 (c:Int)|||BitVec.ofInt 32 ((y:Int) % 4294967296)).toNat:Nat):Int)=_;have e:((y:Int) % 4294967296)=((y % 4294967296:Nat):Int):=by omega
 rw[e,BitVec.ofInt_natCast,BitVec.ofInt_natCast,BitVec.toNat_or,BitVec.toNat_ofNat,BitVec.toNat_ofNat,Nat.mod_eq_of_lt (by omega),Nat.mod_eq_of_lt (by omega)];have h2:c|||y % 4294967296=(y+c) % 4294967296:=by rw[hl,Nat.or_comm];obtain⟨p,hp⟩:=h1;rw[hp];exact(Nat.two_pow_add_eq_or_of_lt (i:=s) hc p).symm
 rw[h2];exact IntWalk.u32_in _ (by omega)
structure LeftI (w wr:World)(G:Nat)(l:List Nat)(m i:Nat)(p:List Nat)(c n:Nat):Prop where
 plen:p.length=i
 len:i+n=l.length
 ds:Ds W32 p
 cm:c<m
 eq:val W32 p+W32 ^ i*c=val W32 (l.take i)*m
 blk:Blk wr G 177 (uc (p++c::List.replicate n 0))
 bel:Below G w wr
theorem uc_mid {p z:List Nat}{c i:Nat}(h:p.length=i):(uc (p++c::z))[i]? =some (.int .u32 (c:Int)):=by
 subst h;simp[uc]
theorem LeftI.cell {w wr:World}{G:Nat}{l p:List Nat}{m i c n:Nat}(h:LeftI w wr G l m i p c n):wr.cell? ⟨G,i,none⟩=some (.int .u32 (c:Int))∧wr.frozen? ⟨G,i,none⟩=false∧(i<l.length→wr.cell? ⟨G,i+1,none⟩=some (.int .u32 0))∧wr.frozen? ⟨G,i+1,none⟩=false:=by
 refine⟨?_,h.blk.frozen _,fun hi=> ?_,h.blk.frozen _⟩
 · rw[h.blk.cell];exact uc_mid h.plen
 · rw[h.blk.cell];obtain⟨k,hk⟩:∃k,n=k+1:=⟨n - 1,by have:=h.len;omega⟩;subst hk;have e:p++c::List.replicate (k+1) 0=(p++ [c])++0::List.replicate k 0:=(by simp[List.replicate_succ]);rw[e];exact uc_mid (by simp[h.plen])
theorem LeftI.step {w wr:World}{G:Nat}{l p:List Nat}{m i c n:Nat}(h:LeftI w wr G l m i p c (n+1))(hG:G=w.heap.size)(y:Nat)(hy:y=l.getD i 0*m)(h1:(y+c) / W32<m):
  LeftI w ((wr.setCell ⟨G,i,none⟩ (.int .u32 (((y+c) % W32:Nat):Int))).setCell ⟨G,i+1,none⟩ (.int .u32 (((y+c) / W32:Nat):Int))) G l m (i+1) (p++ [(y+c) % W32]) ((y+c) / W32) n:=by
 refine⟨by simp[h.plen],by have:=h.len;omega,h.ds.app (by intro x hx;simp at hx;subst hx;exact Nat.mod_lt _ (by decide)),h1, ?_, ?_,(h.bel.setCell (p:=⟨G,i,none⟩) (by rw[hG];exact Zh _) _).setCell (p:=⟨G,i+1,none⟩) (by rw[hG];exact Zh _) _⟩
 · rw[hy];exact left_step h.plen h.eq
 · have b1:=(h.blk.set_ i (.int .u32 (((y+c) % W32:Nat):Int))).set_ (i+1) (.int .u32 (((y+c) / W32:Nat):Int));rw[←Z4y,←Z4y]at b1;have e:(((p++c::List.replicate (n+1) 0).set i ((y+c) % W32)).set (i+1) ((y+c) / W32))=(p++ [(y+c) % W32])++(y+c) / W32::List.replicate n 0:=(by rw[List.set_append_right _ _ (by rw[h.plen];exact Zh _),h.plen,Nat.sub_self,Zc,List.set_append_right _ _ (by rw[h.plen];omega),h.plen,show i+1 - i=1 by omega,List.replicate_succ];simp);rw[e]at b1;exact b1
def Z5t (a m n:Nat)(w:World)(e:Ending)(w':World):Prop:=
 ∃g o,e= .returned (.slice (some ⟨g,0,none⟩) (n+1) (n+1))∧w.heap.size≤g∧Blk w' g 177 (uc o)∧o.length=n+1∧Ds W32 o∧val W32 o=a*m∧Below w.heap.size w w'
theorem Za7 (A:Option Addr)(c0:Nat)(l:List Nat)(s:Nat)(w:World)(hr:Rd w A (uc l))(hd:Ds W32 l)(hs:s<32)(hL:l.length≤549755813888):
  Calls Tryz.prog 179 #[.slice A l.length c0,.int .u64 (s:Int)] w (Z5t (val W32 l) (2 ^ s) l.length w):=by
 have HDl:=Za hd;have HRl:=Za hr;have hw:W32=4294967296:=rfl;have HW:=Za hw;clear hr hd hw;have hmk0:=Z2x ((l.length:Int)+1) (l.length+1) (by simp) (by omega) w;obtain⟨w1,hw1⟩:∃w1,w1=w.alloc (.cells (zs (l.length+1) (.int .u32 0)).toArray 177):=⟨_,rfl⟩;have hp2:0<2 ^ s:=Nat.pow_pos (by omega);have HI0:Hid (LeftI w w1 w.heap.size l (2 ^ s) 0 [] 0 l.length):=by rw[hw1];refine⟨rfl,by simp,Ds.nil,hp2,by simp[val], ?_,(Zm _ _).alloc (Zh _) _⟩;have e:uc ([]++0::List.replicate l.length 0)=zs (l.length+1) (.int .u32 0):=(by simp[uc,zs,List.replicate_succ]);rw[e];exact Blk.new _ _ _
 rw[←hw1]at hmk0;clear hw1;have HGG:=Za (Zh w.heap.size);have HP:Hid (∀e w',(∃o,e= .returned (.slice (some ⟨w.heap.size,0,none⟩) (l.length+1) (l.length+1))∧Blk w' w.heap.size 177 (uc o)∧o.length=l.length+1∧Ds W32 o∧val W32 o=val W32 l*2 ^ s∧Below w.heap.size w w')→Z5t (val W32 l) (2 ^ s) l.length w e w'):=fun e w' ⟨o,h1,h2,h3,h4,h5,h6⟩=>⟨_,o,h1,Zh _,h2,h3,h4,h5,h6⟩;generalize Z5t (val W32 l) (2 ^ s) l.length w=Q at*;generalize hG:w.heap.size=G at*;have HG:=Za hG;clear hG;have hp32:2 ^ s≤2 ^ 31:=Nat.pow_le_pow_right (by omega) (by omega);have s0:(0:Int)≤(s:Int):=by omega
 have s1:(s:Int)≤64:=by omega
 have hdv:2 ^ s∣4294967296:=by have:(4294967296:Nat)=2 ^ 32:=rfl;rw[this];exact Nat.pow_dvd_pow 2 (by omega)
 have HDV:=Za hdv;obtain⟨m,hm⟩:∃m,m=2 ^ s:=⟨_,rfl⟩;have HMI:Hid ((2:Int) ^ s=(m:Int)):=by show _=_;rw[hm];simp
 have HM:=Za hm;rw[←hm]at HI0 HP hp32 hp2 HDV;clear hdv hm;go_enter Tryz.func179,Tryz.ntmps179
 go_wp2
 clear hmk0
 go_loopw [15] (fun iv wr=>∃(i:Nat) (p:List Nat) (c n:Nat),i≤l.length∧iv= .int .i64 (i:Int)∧c<m∧Hid (LeftI w wr G l m i p c n)) (fun iv _=>l.length - (intOf iv).toNat)
 case atStart=>exact⟨0,[],0,l.length,Nat.zero_le _,rfl,hp2,HI0.o⟩
 case round=>
  obtain⟨i,p,c,n,hi,rfl,hcm,HI⟩:=hrel;obtain⟨e1,f1,e2,f2⟩:=HI.o.cell;by_cases hil:i<l.length
  case neg=>
   have hii:i=l.length:=(by omega);subst hii;have HPP:Hid (Q (.returned (.slice (some ⟨G,0,none⟩) (l.length+1) (l.length+1))) wr):=(by have hn0:n=0:=(by have:=HI.o.len;omega);subst hn0;refine HP.o _ _ ⟨p++ [c],rfl,HI.o.blk,by simp[HI.o.plen],HI.o.ds.app (by intro x hx;simp at hx;subst hx;have:=HW.o;omega), ?_,HI.o.bel⟩;rw[Z0v,HI.o.plen,HI.o.eq,List.take_length]);clear HI e1 f1 e2 f2
   go_wp2
   exact HPP.o
  obtain⟨n,rfl⟩:∃n',n=n'+1:=⟨n - 1,by have:=HI.o.len;omega⟩;have e3:=e2 hil;clear e2;have HBl:=Za (HRl.o.below (HG.o▸HI.o.bel:Below w.heap.size w wr));obtain⟨b1,o1,hA,hb1',hc1⟩:=Z0s HBl.o (by omega);subst hA;have d1:=hc1 i hil;have x1:=HDl.o.getD (by decide) i;rw[HW.o]at x1;have HSTP:Hid (∀y:Nat,y=l.getD i 0*m→(y+c) / W32<m→LeftI w ((wr.setCell ⟨G,i,none⟩ (.int .u32 (((y+c) % W32:Nat):Int))).setCell ⟨G,i+1,none⟩ (.int .u32 (((y+c) / W32:Nat):Int))) G l m (i+1) (p++ [(y+c) % W32]) ((y+c) / W32) n):=fun y hy h1=>HI.o.step HG.o.symm y hy h1;rw[HW.o]at HSTP;clear hc1 HBl HI;generalize l.getD i 0=x at*;obtain⟨y,hy⟩:∃y:Nat,y=x*m:=⟨_,rfl⟩;have hdvy:m∣y:=by rw[hy];exact Nat.dvd_mul_left _ _
  have hyb:y<4294967296*m:=by rw[hy];exact Nat.mul_lt_mul_of_pos_right x1 hp2
  have hls:=Z82 HDV.o hdvy hcm;have hqm:(y+c) / 4294967296<m:=by rw[hls.2];exact Nat.div_lt_of_lt_mul hyb
  have HI2:=Za (HSTP.o y hy hqm);have ho:=or_nat32 c y s hs (by rw[←HM.o];exact hcm) (by rw[←HM.o];exact hdvy);have hsh:IntKind.u64.wrap ((x:Int)*2 ^ s)=(y:Int):=by rw[HMI.o,hy,Int.natCast_mul];exact IntWalk.u64_in _ (by rw[←Int.natCast_mul,←hy];omega)
  have hq2:(y:Int) / 4294967296=(((y+c) / 4294967296:Nat):Int):=by omega
  clear HSTP hy hdvy hls;generalize (y+c) / 4294967296=q at*;generalize (y+c) % 4294967296=r at*;have hqb:(q:Int)<4294967296:=by omega
  go_wp2
  go_roundw
  case rel=>exact⟨i+1,_,q,n,by omega,by go_num,hqm,HI2.o⟩
  case measure=>simp[intOf];omega
theorem below_grown {w w1 w2:World}{row:Option Nat}(h:Below w.heap.size w w1)(g:w1.grownBy w2 row):w.grownBy w2 row:=
 ⟨g.os.trans h.os,g.tape.trans h.tape,g.output.trans h.output,Nat.le_trans h.size g.size,fun k hk hne=>(g.block k (Nat.lt_of_lt_of_le hk h.size) hne).trans (h.block k hk)⟩
theorem Z2l {P:Program}{w:World}{ops:Array Oper}{rest:List Oper}{o:Oper}{a:Act}{Q:Exit→Act→World→Prop}(hgd:o.guard=none)(d s:Operand)(dT sT:TypeId)
  (ho:o.op= .call {callee:= .builtin .copy,args:= #[d,s],argTypes:= #[dT,sT]}) (elem:TypeId) (hu:P.underlying dT=some (.slice elem)) (hsz:(P.info? elem).map (·.size)=some 1)
  (g off dLen dCap:Nat) (ad:Addr) (sLen sCap:Nat) (hd:a.eval d= .slice (some ⟨g,off,none⟩) dLen dCap) (hs:a.eval s= .slice (some ad) sLen sCap)
  (cur:List Value) (t:TypeId) (hg:Blk w g t cur) (cs:List Value) (hn:cs.length=Nat.min sLen dLen)
  (hsrc:∀j v,cs[j]? =some v→w.cell? (ad.add j)=some v) (hfit:off+cs.length≤cur.length) (h1:∀v∈cs,v.oneCell'=true)
  (h:∀w',Hid (Blk w' g t (splice cur off cs))→w.grownBy w' (some g)→wpList P ops Q rest (a.put o.dst (goInt cs.length)) w'):wpList P ops Q (o::rest) a w:=by
 refine wpList_copy_own hgd d s dT sT ho elem hu hsz g off dLen dCap ad sLen sCap hd hs cur.toArray t hg cs hn hsrc (by simpa using hfit) h1 ?_;exact h _ (show Blk _ _ _ _ by simpa [splice,Blk]using setRow_heap w g _ _ t _ hg) ⟨rfl,rfl,rfl,by simp[World.setRow],fun k _ hk=>setRow_other w g k _ (fun e=>hk (by rw[e]))⟩
theorem infoU1:(Tryz.prog.info? 177).map (·.size)=some 1:=by kernel_rfl
theorem Z76 (C:Nat)(h:C<18446744073709551616):bits .and .u64 (C:Int) 4294967295=((C % 4294967296:Nat):Int):=by
 unfold bits;show IntKind.u64.wrap (((BitVec.ofInt 64 (C:Int) &&& BitVec.ofInt 64 4294967295).toNat:Nat):Int)=_;have e:(4294967295:Int)=((4294967295:Nat):Int):=rfl;rw[e,BitVec.ofInt_natCast,BitVec.ofInt_natCast,BitVec.toNat_and,BitVec.toNat_ofNat,BitVec.toNat_ofNat,Nat.mod_eq_of_lt (by omega),Nat.mod_eq_of_lt (by omega)];have h1:C &&& 4294967295=C % 4294967296:=Nat.and_two_pow_sub_one_eq_mod C 32;rw[h1];exact IntWalk.u64_in _ (by omega)
theorem Z77 (u m c:Nat)(hu:u<4294967296)(hm:m<4294967296)(hc:c≤1):∃t1 t d c':Nat,IntKind.u64.wrap ((u:Int) - (m:Int))=(t1:Int)∧IntKind.u64.wrap ((t1:Int) - (c:Int))=(t:Int)∧
  (t:Int) % 4294967296=(d:Int)∧(t:Int) / 9223372036854775808=(c':Int)∧d<4294967296∧c'≤1∧d+m+c=u+4294967296*c'∧t<18446744073709551616∧t1<18446744073709551616:=by
 have w64:∀n:Int,IntKind.u64.wrap n=n % 18446744073709551616:=fun n=>by rw[IntKind.wrap_u64]
 refine⟨(((u:Int) - m) % 18446744073709551616).toNat,(((u:Int) - m - c) % 18446744073709551616).toNat,((((u:Int) - m - c) % 18446744073709551616) % 4294967296).toNat,((((u:Int) - m - c) % 18446744073709551616) / 9223372036854775808).toNat, ?_, ?_, ?_, ?_, ?_, ?_, ?_, ?_, ?_⟩
 · rw[w64];omega
 · rw[w64];omega
 · omega
 · omega
 · omega
 · omega
 · omega
 · omega
 · omega
structure StpP (w:World)(gu gv j n:Nat)(ou lu lv:List Nat):Prop where
 bu:Blk w gu 177 (uc ou)
 bv:Rd w (some ⟨gv,0,none⟩) (uc lv)
 ne:gu≠gv
 fit:j+(n+1)≤ou.length
 lue:lu=(ou.drop j).take (n+1)
 lve:lv.length=n
 n0:0<n
 du:Ds W32 ou
 dv:Ds W32 lv
 top:0<lv.getD (n - 1) 0
 lt:val W32 lu<val W32 lv*W32
theorem StpP.lulen {w:World}{gu gv j n:Nat}{ou lu lv:List Nat}(h:StpP w gu gv j n ou lu lv):lu.length=n+1:=by
 rw[h.lue,List.length_take,List.length_drop];have:=h.fit;omega
theorem StpP.dlu {w:World}{gu gv j n:Nat}{ou lu lv:List Nat}(h:StpP w gu gv j n ou lu lv):Ds W32 lu:=by
 rw[h.lue];exact(h.du.drop _).take _
theorem StpP.cu {w:World}{gu gv j n:Nat}{ou lu lv:List Nat}(h:StpP w gu gv j n ou lu lv){k:Nat}(hk:k≤n):w.cell? ⟨gu,j+k,none⟩=some (.int .u32 (lu.getD k 0:Nat)):=by
 rw[h.bu.cell,Z6a _ _ (by have:=h.fit;omega)];congr 2;rw[h.lue,Zg,Zg,List.getElem?_take_of_lt (by omega),List.getElem?_drop]
theorem StpP.cv {w:World}{gu gv j n:Nat}{ou lu lv:List Nat}(h:StpP w gu gv j n ou lu lv){k:Nat}(hk:k<n):w.cell? ⟨gv,k,none⟩=some (.int .u32 (lv.getD k 0:Nat)):=by
 obtain⟨b,off,e,hb,hc⟩:=Z0s h.bv (by rw[h.lve];have:=h.n0;omega);injection e with e;injection e with e1 e2 e3;subst e1 e2;have:=hc k (by rw[h.lve];exact hk);rw[Nat.zero_add]at this;exact this
theorem StpP.below {w w':World}{gu gv j n:Nat}{ou lu lv:List Nat}(h:StpP w gu gv j n ou lu lv)(hb:Below w.heap.size w w'):StpP w' gu gv j n ou lu lv:=
 ⟨(hb.block gu h.bu.lt).trans h.bu,h.bv.below hb,h.ne,h.fit,h.lue,h.lve,h.n0,h.du,h.dv,h.top,h.lt⟩
theorem two_top {B:Nat}(l:List Nat)(m:Nat)(h:l.length=m+2):val B l=val B (l.take m)+B ^ m*(l.getD m 0+B*l.getD (m+1) 0):=by
 have h1:=Z06 (B:=B) l m;have h2:=Z06 (B:=B) l (m+1);rw[show m+1+1=l.length by omega,List.take_length]at h2;rw[h2,h1,Nat.pow_succ,Nat.mul_add,Nat.mul_assoc,Nat.add_assoc]
theorem one_top {B:Nat}(l:List Nat)(m:Nat)(h:l.length=m+1):B ^ m*l.getD m 0≤val B l:=by
 have h1:=Z06 (B:=B) l m;rw[show m+1=l.length by omega,List.take_length]at h1;rw[h1];omega
theorem est_ok {B:Nat}(hB:0<B){lu lv:List Nat}{m:Nat}(hu:lu.length=m+2)(hv:lv.length=m+1)(hd:Ds B lu)(ht:0<lv.getD m 0):val B lu / val B lv≤(lu.getD (m+1) 0*B+lu.getD m 0) / lv.getD m 0:=by
 refine est_ge (n:=m) (B:=B) ht ?_ ?_ hB
 · rw[two_top lu m hu];have h1:=Z2z hB (hd.take m);rw[List.length_take,Nat.min_eq_left (by omega)]at h1;rw[Nat.mul_comm B,Nat.add_comm (lu.getD m 0),Nat.add_mul,Nat.one_mul,Nat.mul_comm (B ^ m)];omega
 · rw[Nat.mul_comm];exact one_top lv m hv
theorem step_end {U V q p c X:Nat}(hV:0<V)(hQ:U / V≤q)(hp:p<X)(he:p+q*V=U+X*(c+0))(hc:c≤1):(c=0→U / V=q∧U % V=p)∧(c=1→U / V≤q - 1∧1≤q):=by
 refine⟨fun h0=> ?_,fun h1=> ?_⟩
 · subst h0;have h2:U=q*V+p:=(by omega);have h3:p<V:=(by have h4:U<(U / V+1)*V:=(by have:=Nat.lt_mul_div_succ U hV;rw[Nat.mul_comm];exact this);have h5:(U / V+1)*V≤(q+1)*V:=Nat.mul_le_mul_right V (by omega);rw[Nat.add_mul q 1 V]at h5;omega);exact Z5l h2 h3
 · subst h1;have h2:U<q*V:=(by omega);have h3:U / V<q:=Nat.div_lt_of_lt_mul (by rw[Nat.mul_comm];exact h2);generalize U / V=Q at*;omega
def StpRes (w:World)(gu j n:Nat)(ou lu lv:List Nat)(e:Ending)(w':World):Prop:=
 ∃D:List Nat,e= .returned (.int .u32 ((val W32 lu / val W32 lv:Nat):Int))∧D.length=n+1∧Ds W32 D∧val W32 D=val W32 lu % val W32 lv∧Blk w' gu 177 (uc (ou.take j++D++ou.drop (j+(n+1))))∧w.grownBy w' (some gu)
structure DifI (w wr:World)(G:Nat)(lu lv:List Nat)(q i:Nat)(p:List Nat)(c C n:Nat):Prop where
 plen:p.length=i
 ds:Ds W32 p
 c1:c≤1
 cw:C<W32
 eq:val W32 p+q*val W32 (lv.take i)=val W32 (lu.take i)+W32 ^ i*(c+C)
 fill:Z1h wr G p n
 bel:Below w.heap.size w wr
theorem DifI.step {w wr:World}{G:Nat}{lu lv p:List Nat}{q i c C n:Nat}(h:DifI w wr G lu lv q i p c C (n+1))(hG:w.heap.size≤G)(s d c':Nat)(hs:s=C+q*lv.getD i 0)(hq:s / W32<W32)(hd:d<W32)(hc:c'≤1)(he:d+s % W32+c=lu.getD i 0+W32*c'):
  DifI w (wr.setCell ⟨G,i,none⟩ (.int .u32 (d:Int))) G lu lv q (i+1) (p++ [d]) c' (s / W32) n:=by
 refine⟨by simp[h.plen],h.ds.app (by intro x hx;simp at hx;subst hx;exact hd),hc,hq, ?_, ?_,h.bel.setCell (p:=⟨G,i,none⟩) hG _⟩
 · rw[hs];rw[hs]at he;exact dif_step h.plen h.eq he
 · have:=h.fill.set d;rw[h.plen]at this;exact this
theorem Za8 (b j:Nat):(⟨b,0,none⟩:Addr).add j=⟨b,j,none⟩:=by unfold Addr.add;split<;>simp_all
theorem Za9 {ou p:List Nat}{j:Nat}:splice (uc ou) j (uc p)=uc (ou.take j++p++ou.drop (j+p.length)):=by
 simp[splice,uc,List.map_take,List.map_drop]
theorem step_any (gu gv j n cu cv:Nat)(ou lu lv:List Nat)(w:World)(h:StpP w gu gv j n ou lu lv)(hn:n≤549755813888):
  Calls Tryz.prog 180 #[.slice (some ⟨gu,j,none⟩) (n+1) cu,.slice (some ⟨gv,0,none⟩) n cv] w (StpRes w gu j n ou lu lv):=by
 obtain⟨m,rfl⟩:∃m,n=m+1:=⟨n - 1,by have:=h.n0;omega⟩;have HS:=Za h;have hw:W32=4294967296:=rfl;have HW:=Za hw;have u0:=h.cu (k:=m+1) (Zh _);have u1:=h.cu (k:=m) (by omega);have v1:=h.cv (k:=m) (by omega);have a0:=h.dlu.getD (by decide) (m+1);have a1:=h.dlu.getD (by decide) m;have a2:=h.dv.getD (by decide) m;have a3:0<lv.getD m 0:=h.top;rw[hw]at a0 a1 a2;have HEST:=Za (est_ok (B:=W32) (by decide) h.lulen h.lve h.dlu (by exact h.top));have HQB:Hid (val W32 lu / val W32 lv<W32):=Nat.div_lt_of_lt_mul h.lt
 have HV0:Hid (0<val W32 lv):=by
  show 0<_;rcases Nat.eq_zero_or_pos (val W32 lv)with e|e
  · have:=h.lt;rw[e]at this;omega
  · exact e
 obtain⟨Q,hQ⟩:∃Q,Q=val W32 lu / val W32 lv:=⟨_,rfl⟩;rw[←hQ]at HEST HQB;rw[hw]at HEST HQB;clear h hw;have HQ:=Za hQ;clear hQ;generalize lu.getD (m+1) 0=un at*;generalize lu.getD m 0=um at*;generalize lv.getD m 0=vt at*;have ho:=Zdc um un a1 a0;obtain⟨tp,htp⟩:∃tp,tp=un*4294967296+um:=⟨_,rfl⟩;rw[←htp]at HEST ho;have htb:tp<18446744073709551616:=by omega
 have htq:un<vt→tp / vt<4294967296:=fun hlt=>by rw[htp];exact Zcr hlt a1
 have HTQ:=Za htq;clear htp htq;have hdv:(tp:Int) / (vt:Int)=((tp / vt:Nat):Int):=(Int.natCast_ediv tp vt).symm;generalize tp / vt=q0 at*;have hvz:(1:Int)≤(vt:Int):=by omega
 have i0:(0:Int)≤(m:Int)+1:=by omega
 have i1:(m:Int)+1<(m:Int)+1+1:=by omega
 have i2:(0:Int)≤(m:Int):=by omega
 have i3:(m:Int)<(m:Int)+1:=by omega
 have i4:(m:Int)<(m:Int)+1+1:=by omega
 have HMK:∀W:World,(Instr.makeSlice 112 (.int .i64 ((m:Int)+1+1)) (.int .i64 ((m:Int)+1+1))).run Tryz.prog W= .ok (.slice (some ⟨W.heap.size,0,none⟩) (m+1+1) (m+1+1)) (W.alloc (.cells (zs (m+1+1) (.int .u32 0)).toArray 177)):=fun W=>Z2x _ (m+1+1) (by omega) (by omega) W;have HU0:=Za u0;have HU1:=Za u1;by_cases hlt:un<vt
 ·
  have hq0:q0<4294967296:=HTQ.o hlt;have HQ0:Hid (Q≤q0):=HEST.o;clear HEST HTQ HU0 HU1;go_enter Tryz.func180,Tryz.ntmps180
  go_wp2
  go_quiet (fail)
  go_wp2
  go_quiet (fail)
  go_wp2
  clear u0 u1 v1 ho hdv a0 a1 a2 a3 htb hlt i0 i1 i2 i3 i4 hvz
  go_loopw [7] (fun qv wr=>∃q:Nat,qv= .int .u64 (q:Int)∧q<4294967296∧Hid (Q≤q)∧Hid (Below w.heap.size w wr)) (fun qv _=>(intOf qv).toNat)
  case atStart=>exact⟨q0,rfl,hq0,HQ0.o,by show Below _ _ _;first|exact below_drewN (Zm _ _) _|exact below_drewN (below_drewN (Zm _ _) _) _⟩
  case round=>
   clear HQ0 hq0;obtain⟨q,rfl,hq,HQQ,HBo⟩:=hrel;obtain⟨wo,hwo⟩:∃wo,wo=wr:=⟨_,rfl⟩;subst hwo;have HGo:=Za HBo.o.size;have HD0:Hid (DifI w (wo.alloc (.cells (zs (m+1+1) (.int .u32 0)).toArray 177)) wo.heap.size lu lv q 0 [] 0 0 (m+1+1)):=⟨rfl,Ds.nil,by omega,by decide,by simp[val],Z1h.start wo _,HBo.o.alloc HGo.o _⟩;have HMKW:=HMK wo;go_wp2_with fail;clear HMKW
   go_loopw [8,9,51] (fun cv Cv iv wr=>∃(i c C n:Nat) (p:List Nat),iv= .int .i64 (i:Int)∧i≤m+1+1∧i+n=m+1+1∧cv= .int .u64 (c:Int)∧Cv= .int .u64 (C:Int)∧c≤1∧C<4294967296∧Hid (i=m+1+1→C=0)∧Hid (DifI w wr wo.heap.size lu lv q i p c C n)) (fun _ _ iv _=>m+1+1 - (intOf iv).toNat)
   case atStart=>exact⟨0,0,0,m+1+1,[],rfl,by omega,by omega,rfl,rfl,by omega,by omega,fun h=>by omega,HD0.o⟩
   case round=>
    obtain⟨i,c,C,n,p,rfl,hi,hin,rfl,rfl,hc,hC,HC0,HI⟩:=hrel;clear HD0;by_cases hil:i<m+1+1
    case neg=>
     have hii:i=m+1+1:=(by omega);have hn0:n=0:=(by omega);have hC0:=HC0.o hii;subst hii hn0 hC0;have HEND:Hid ((c=0→val W32 lu / val W32 lv=q∧val W32 lu % val W32 lv=val W32 p)∧(c=1→val W32 lu / val W32 lv≤q - 1∧1≤q)):=(by have hS:=HS.o;have hp:=Z2z (B:=W32) (by decide) HI.o.ds;rw[HI.o.plen]at hp;refine step_end HV0.o (by rw[←HQ.o];exact HQQ.o) hp ?_ hc;have:=HI.o.eq;rw[Zl (by rw[hS.lve];omega),Zl (by rw[hS.lulen];exact Zh _)]at this;exact this);by_cases hc0:c=0
     ·
      subst hc0;obtain⟨r1,r2⟩:=HEND.o.1 rfl;have HR1:=Za r1;have HR2:=Za r2;have HSW:=Za (HS.o.below HI.o.bel);have HSRC:Hid (∀j v,(uc p)[j]? =some v→wr.cell? ((⟨wo.heap.size,0,none⟩:Addr).add j)=some v):=fun j v hv=>(by have hb:=HI.o.fill;have e:(⟨wo.heap.size,0,none⟩:Addr).add j=⟨wo.heap.size,j,none⟩:=Za8 _ _;rw[e,Blk.cell hb];simpa using hv);have HPL:Hid ((uc p).length=m+1+1):=(by show _=_;rw[Z37,HI.o.plen]);have HFIT:Hid (j+(uc p).length≤(uc ou).length):=(by show _≤_;rw[HPL.o,Z37];exact HS.o.fit);have HONE:Hid (∀v∈uc p,v.oneCell'=true):=fun v hv=>(by rw[uc,List.mem_map]at hv;obtain⟨d,_,rfl⟩:=hv;rfl);have HMIN:Hid ((uc p).length=Nat.min (m+1+1) (m+1+1)):=(by show _=_;rw[HPL.o];exact(Nat.min_self _).symm);clear r1 r2 HC0;go_wp2_with (refine Z2l (by rfl) (.tmp 88) (.tmp 89) 112 112 (by rfl) 177 Tryz.underlying112 infoU1 gu j (m+1+1) cu ⟨wo.heap.size,0,none⟩ (m+1+1) (m+1+1) (by rfl) (by rfl) (uc ou) 177 HSW.o.bu (uc p) HMIN.o HSRC.o HFIT.o HONE.o ?_;intro w9 HB9 hg9);go_ret;refine⟨p, ?_,HI.o.plen,HI.o.ds,HR2.o.symm, ?_,below_grown HI.o.bel hg9⟩
      · rw[HR1.o];rfl
      · have:=HB9.o;rw[Za9,HI.o.plen]at this;exact this
     ·
      have hc1:c=1:=(by omega);subst hc1;obtain⟨r1,r2⟩:=HEND.o.2 rfl;have HR1:=Za r1;have HB:=Za HI.o.bel;clear r1 HEND HI HC0;obtain⟨q',rfl⟩:∃q',q=q'+1:=⟨q - 1,by omega⟩
      go_wp2
      go_roundw
      case rel=>exact⟨q',by go_num,by omega,by show _≤_;rw[HQ.o];have:=HR1.o;simpa using this,HB.o⟩
      case measure=>simp[intOf]
    obtain⟨n,rfl⟩:∃n',n=n'+1:=⟨n - 1,by omega⟩;obtain⟨e1,f1⟩:=HI.o.fill.cell;rw[HI.o.plen]at e1 f1;have HSW:=Za (HS.o.below HI.o.bel);have u2:=HSW.o.cu (k:=i) (by omega);have x1:=HS.o.dlu.getD (by decide) i;rw[HW.o]at x1;have HSTP:Hid (∀s d c':Nat,s=C+q*lv.getD i 0→s / W32<W32→d<W32→c'≤1→d+s % W32+c=lu.getD i 0+W32*c'→DifI w (wr.setCell ⟨wo.heap.size,i,none⟩ (.int .u32 (d:Int))) wo.heap.size lu lv q (i+1) (p++ [d]) c' (s / W32) n):=fun s d c' h1 h2 h3 h4 h5=>HI.o.step HGo.o s d c' h1 h2 h3 h4 h5;rw[HW.o]at HSTP;have z0:(0:Int)≤(i:Int):=(by omega);have z1:(i:Int)<(m:Int)+1+1:=(by omega);by_cases him:i<m+1
    ·
     have v2:=HSW.o.cv (k:=i) him;have y1:=HS.o.dv.getD (by decide) i;rw[HW.o]at y1;have z2:(i:Int)<(m:Int)+1:=(by omega);clear HI HSW HC0;generalize lu.getD i 0=x at*;generalize lv.getD i 0=y at*;obtain⟨hm1,hm2⟩:=Z6c (B:=4294967296) (o:=0) hq y1 hC (by omega);obtain⟨qy,hqy⟩:∃qy:Nat,qy=q*y:=⟨_,rfl⟩;rw[←hqy]at HSTP hm1 hm2;rw[Nat.add_zero]at hm1 hm2;have hqb:qy<18446744073709551616:=(by omega);have HQY:IntKind.u64.wrap ((q:Int)*(y:Int))=(qy:Int):=(by rw[hqy,Int.natCast_mul];exact IntWalk.u64_in _ (by rw[←Int.natCast_mul,←hqy];omega));clear hqy;obtain⟨s,hs⟩:∃s:Nat,s=C+qy:=⟨_,rfl⟩;rw[←hs]at hm1 hm2;have hCs:(C:Int)+(qy:Int)=(s:Int):=(by omega);have hand:=Z76 s hm1;have hsm:s % 4294967296<4294967296:=Nat.mod_lt _ (by omega);have hE5:(s:Int) / 4294967296=((s / 4294967296:Nat):Int):=(by omega);have HST2:=Za (fun d c'=>HSTP.o s d c' hs hm2);clear HSTP hs;generalize s % 4294967296=sm at*;generalize s / 4294967296=C' at*;obtain⟨t1,t,d,c',E1,E2,E3,E4,g1,g2,g3,g4,g5⟩:=Z77 x sm c x1 hsm hc;have HI2:=Za (HST2.o d c' g1 g2 g3);clear HST2 g3
     go_wp2
     go_roundw
     case rel=>exact⟨i+1,c',C',n,p++ [d],by go_num,by omega,by omega,rfl,rfl,g2,hm2,fun h=>by omega,HI2.o⟩
     case measure=>simp[intOf];omega
    ·
     have hii:i=m+1:=(by omega);have hy0:lv.getD i 0=0:=(by rw[Zg,List.getElem?_eq_none (by rw[HS.o.lve];omega)];rfl);clear HI HSW HC0 hii;generalize lu.getD i 0=x at*;rw[hy0]at HSTP;clear hy0;have hand:=Z76 C (by omega);have hmod:C % 4294967296=C:=Nat.mod_eq_of_lt hC;have hdv0:C / 4294967296=0:=Nat.div_eq_of_lt hC;have HST2:=Za (fun d c'=>HSTP.o C d c' (by omega) (by omega));rw[hmod]at hand;rw[hmod,hdv0]at HST2;clear HSTP hmod hdv0;obtain⟨t1,t,d,c',E1,E2,E3,E4,g1,g2,g3,g4,g5⟩:=Z77 x C c x1 hC hc;have HI2:=Za (HST2.o d c' g1 g2 g3);have hE5:(C:Int) / 4294967296=0:=(by omega);have him2:¬(i:Int)<(m:Int)+1:=(by omega);clear HST2 g3
     go_wp2
     go_roundw
     case rel=>exact⟨i+1,c',0,n,p++ [d],by go_num,by omega,by omega,rfl,by go_num,g2,by omega,fun h=>rfl,HI2.o⟩
     case measure=>simp[intOf];omega
 ·
  have hq0:4294967295<4294967296:=by omega
  have HQ0:Hid (Q≤4294967295):=by have:=HQB.o;show _≤_;omega
  clear HEST HTQ HU0 HU1;go_enter Tryz.func180,Tryz.ntmps180
  go_wp2
  go_quiet (fail)
  go_wp2
  go_quiet (fail)
  go_wp2
  clear u0 u1 v1 ho hdv a0 a1 a2 a3 htb hlt i0 i1 i2 i3 i4 hvz
  go_loopw [7] (fun qv wr=>∃q:Nat,qv= .int .u64 (q:Int)∧q<4294967296∧Hid (Q≤q)∧Hid (Below w.heap.size w wr)) (fun qv _=>(intOf qv).toNat)
  case atStart=>exact⟨4294967295,rfl,hq0,HQ0.o,by show Below _ _ _;first|exact below_drewN (Zm _ _) _|exact below_drewN (below_drewN (Zm _ _) _) _⟩
  case round=>
   clear HQ0 hq0;obtain⟨q,rfl,hq,HQQ,HBo⟩:=hrel;obtain⟨wo,hwo⟩:∃wo,wo=wr:=⟨_,rfl⟩;subst hwo;have HGo:=Za HBo.o.size;have HD0:Hid (DifI w (wo.alloc (.cells (zs (m+1+1) (.int .u32 0)).toArray 177)) wo.heap.size lu lv q 0 [] 0 0 (m+1+1)):=⟨rfl,Ds.nil,by omega,by decide,by simp[val],Z1h.start wo _,HBo.o.alloc HGo.o _⟩;have HMKW:=HMK wo;go_wp2_with fail;clear HMKW
   go_loopw [8,9,51] (fun cv Cv iv wr=>∃(i c C n:Nat) (p:List Nat),iv= .int .i64 (i:Int)∧i≤m+1+1∧i+n=m+1+1∧cv= .int .u64 (c:Int)∧Cv= .int .u64 (C:Int)∧c≤1∧C<4294967296∧Hid (i=m+1+1→C=0)∧Hid (DifI w wr wo.heap.size lu lv q i p c C n)) (fun _ _ iv _=>m+1+1 - (intOf iv).toNat)
   case atStart=>exact⟨0,0,0,m+1+1,[],rfl,by omega,by omega,rfl,rfl,by omega,by omega,fun h=>by omega,HD0.o⟩
   case round=>
    obtain⟨i,c,C,n,p,rfl,hi,hin,rfl,rfl,hc,hC,HC0,HI⟩:=hrel;clear HD0;by_cases hil:i<m+1+1
    case neg=>
     have hii:i=m+1+1:=(by omega);have hn0:n=0:=(by omega);have hC0:=HC0.o hii;subst hii hn0 hC0;have HEND:Hid ((c=0→val W32 lu / val W32 lv=q∧val W32 lu % val W32 lv=val W32 p)∧(c=1→val W32 lu / val W32 lv≤q - 1∧1≤q)):=(by have hS:=HS.o;have hp:=Z2z (B:=W32) (by decide) HI.o.ds;rw[HI.o.plen]at hp;refine step_end HV0.o (by rw[←HQ.o];exact HQQ.o) hp ?_ hc;have:=HI.o.eq;rw[Zl (by rw[hS.lve];omega),Zl (by rw[hS.lulen];exact Zh _)]at this;exact this);by_cases hc0:c=0
     ·
      subst hc0;obtain⟨r1,r2⟩:=HEND.o.1 rfl;have HR1:=Za r1;have HR2:=Za r2;have HSW:=Za (HS.o.below HI.o.bel);have HSRC:Hid (∀j v,(uc p)[j]? =some v→wr.cell? ((⟨wo.heap.size,0,none⟩:Addr).add j)=some v):=fun j v hv=>(by have hb:=HI.o.fill;have e:(⟨wo.heap.size,0,none⟩:Addr).add j=⟨wo.heap.size,j,none⟩:=Za8 _ _;rw[e,Blk.cell hb];simpa using hv);have HPL:Hid ((uc p).length=m+1+1):=(by show _=_;rw[Z37,HI.o.plen]);have HFIT:Hid (j+(uc p).length≤(uc ou).length):=(by show _≤_;rw[HPL.o,Z37];exact HS.o.fit);have HONE:Hid (∀v∈uc p,v.oneCell'=true):=fun v hv=>(by rw[uc,List.mem_map]at hv;obtain⟨d,_,rfl⟩:=hv;rfl);have HMIN:Hid ((uc p).length=Nat.min (m+1+1) (m+1+1)):=(by show _=_;rw[HPL.o];exact(Nat.min_self _).symm);clear r1 r2 HC0;go_wp2_with (refine Z2l (by rfl) (.tmp 88) (.tmp 89) 112 112 (by rfl) 177 Tryz.underlying112 infoU1 gu j (m+1+1) cu ⟨wo.heap.size,0,none⟩ (m+1+1) (m+1+1) (by rfl) (by rfl) (uc ou) 177 HSW.o.bu (uc p) HMIN.o HSRC.o HFIT.o HONE.o ?_;intro w9 HB9 hg9);go_ret;refine⟨p, ?_,HI.o.plen,HI.o.ds,HR2.o.symm, ?_,below_grown HI.o.bel hg9⟩
      · rw[HR1.o];rfl
      · have:=HB9.o;rw[Za9,HI.o.plen]at this;exact this
     ·
      have hc1:c=1:=(by omega);subst hc1;obtain⟨r1,r2⟩:=HEND.o.2 rfl;have HR1:=Za r1;have HB:=Za HI.o.bel;clear r1 HEND HI HC0;obtain⟨q',rfl⟩:∃q',q=q'+1:=⟨q - 1,by omega⟩
      go_wp2
      go_roundw
      case rel=>exact⟨q',by go_num,by omega,by show _≤_;rw[HQ.o];have:=HR1.o;simpa using this,HB.o⟩
      case measure=>simp[intOf]
    obtain⟨n,rfl⟩:∃n',n=n'+1:=⟨n - 1,by omega⟩;obtain⟨e1,f1⟩:=HI.o.fill.cell;rw[HI.o.plen]at e1 f1;have HSW:=Za (HS.o.below HI.o.bel);have u2:=HSW.o.cu (k:=i) (by omega);have x1:=HS.o.dlu.getD (by decide) i;rw[HW.o]at x1;have HSTP:Hid (∀s d c':Nat,s=C+q*lv.getD i 0→s / W32<W32→d<W32→c'≤1→d+s % W32+c=lu.getD i 0+W32*c'→DifI w (wr.setCell ⟨wo.heap.size,i,none⟩ (.int .u32 (d:Int))) wo.heap.size lu lv q (i+1) (p++ [d]) c' (s / W32) n):=fun s d c' h1 h2 h3 h4 h5=>HI.o.step HGo.o s d c' h1 h2 h3 h4 h5;rw[HW.o]at HSTP;have z0:(0:Int)≤(i:Int):=(by omega);have z1:(i:Int)<(m:Int)+1+1:=(by omega);by_cases him:i<m+1
    ·
     have v2:=HSW.o.cv (k:=i) him;have y1:=HS.o.dv.getD (by decide) i;rw[HW.o]at y1;have z2:(i:Int)<(m:Int)+1:=(by omega);clear HI HSW HC0;generalize lu.getD i 0=x at*;generalize lv.getD i 0=y at*;obtain⟨hm1,hm2⟩:=Z6c (B:=4294967296) (o:=0) hq y1 hC (by omega);obtain⟨qy,hqy⟩:∃qy:Nat,qy=q*y:=⟨_,rfl⟩;rw[←hqy]at HSTP hm1 hm2;rw[Nat.add_zero]at hm1 hm2;have hqb:qy<18446744073709551616:=(by omega);have HQY:IntKind.u64.wrap ((q:Int)*(y:Int))=(qy:Int):=(by rw[hqy,Int.natCast_mul];exact IntWalk.u64_in _ (by rw[←Int.natCast_mul,←hqy];omega));clear hqy;obtain⟨s,hs⟩:∃s:Nat,s=C+qy:=⟨_,rfl⟩;rw[←hs]at hm1 hm2;have hCs:(C:Int)+(qy:Int)=(s:Int):=(by omega);have hand:=Z76 s hm1;have hsm:s % 4294967296<4294967296:=Nat.mod_lt _ (by omega);have hE5:(s:Int) / 4294967296=((s / 4294967296:Nat):Int):=(by omega);have HST2:=Za (fun d c'=>HSTP.o s d c' hs hm2);clear HSTP hs;generalize s % 4294967296=sm at*;generalize s / 4294967296=C' at*;obtain⟨t1,t,d,c',E1,E2,E3,E4,g1,g2,g3,g4,g5⟩:=Z77 x sm c x1 hsm hc;have HI2:=Za (HST2.o d c' g1 g2 g3);clear HST2 g3
     go_wp2
     go_roundw
     case rel=>exact⟨i+1,c',C',n,p++ [d],by go_num,by omega,by omega,rfl,rfl,g2,hm2,fun h=>by omega,HI2.o⟩
     case measure=>simp[intOf];omega
    ·
     have hii:i=m+1:=(by omega);have hy0:lv.getD i 0=0:=(by rw[Zg,List.getElem?_eq_none (by rw[HS.o.lve];omega)];rfl);clear HI HSW HC0 hii;generalize lu.getD i 0=x at*;rw[hy0]at HSTP;clear hy0;have hand:=Z76 C (by omega);have hmod:C % 4294967296=C:=Nat.mod_eq_of_lt hC;have hdv0:C / 4294967296=0:=Nat.div_eq_of_lt hC;have HST2:=Za (fun d c'=>HSTP.o C d c' (by omega) (by omega));rw[hmod]at hand;rw[hmod,hdv0]at HST2;clear HSTP hmod hdv0;obtain⟨t1,t,d,c',E1,E2,E3,E4,g1,g2,g3,g4,g5⟩:=Z77 x C c x1 hC hc;have HI2:=Za (HST2.o d c' g1 g2 g3);have hE5:(C:Int) / 4294967296=0:=(by omega);have him2:¬(i:Int)<(m:Int)+1:=(by omega);clear HST2 g3
     go_wp2
     go_roundw
     case rel=>exact⟨i+1,c',0,n,p++ [d],by go_num,by omega,by omega,rfl,by go_num,g2,by omega,fun h=>rfl,HI2.o⟩
     case measure=>simp[intOf];omega
attribute [local go_sem ↓] Go.wp_at_zero Go.wp_at_succ
theorem chain2 {w w4 x y:World}(h:Below w.heap.size w w4)(h1:Below w4.drew.heap.size w4.drew x)(h2:Below x.heap.size x y):Below w.heap.size w y:=by
 have a1:Below w.heap.size w w4.drew:=below_drewN h 1;have a2:=a1.trans (h1.mono a1.size);exact a2.trans (h2.mono a2.size)
theorem Z78 (w:World):Z09 w (.slice none 0 0) 0:=⟨none,0,[],rfl,.inl rfl,Nm.nil,rfl⟩
theorem Z46 {w W W':World}(h:Below w.heap.size w W)(k:Qd W W'):Below w.heap.size w W':=h.trans (k.below.mono h.size)
theorem div_lt (va vb:Value)(a b:Nat)(w:World)(h:Z09 w va a)(g:Z09 w vb b)(k:Nat)(hk:Lim k a)(gk:Lim k b)(hk2:k≤549755813888)(hab:a<b):
  Calls Tryz.prog 151 #[va,vb] w (Z53 a b w):=by
 have HC:Hid (Calls Tryz.prog 126 #[va,vb] w fun e w'=>e= .returned (.int .i64 (-1))∧Qd w w'):=by have:=Z21 va vb a b w h g k hk gk (by omega);unfold Z45 at this;rw[Z1u hab]at this;exact this
 have HD:Hid (a / b=0∧a % b=a):=⟨Nat.div_eq_of_lt hab,Nat.mod_eq_of_lt hab⟩;have H:=Za h;clear h g hk gk hab;go_enter Tryz.func151,Tryz.ntmps151;go_wp2_with fail;refine HC.o.mono ?_;rintro e w2 ⟨rfl,hq2⟩;go_wp2_with fail
 go_ret2
 refine⟨_,_,rfl, ?_, ?_,hq2.below⟩
 · rw[HD.o.1];exact Z78 _
 · rw[HD.o.2];exact H.o.below hq2.below
theorem Zde (va vb:Value)(a b:Nat)(w:World)(h:Z09 w va a)(g:Z09 w vb b)(k:Nat)(hk:Lim k a)(gk:Lim k b)(hk2:k≤549755813888)(hab:b≤a)(hb:0<b)(ha:a<18446744073709551616):
  Calls Tryz.prog 151 #[va,vb] w (Z53 a b w):=by
 have HC:Hid (∃r:Int,0≤r∧Calls Tryz.prog 126 #[va,vb] w fun e w'=>e= .returned (.int .i64 r)∧Qd w w'):=by refine⟨Z27 a b, ?_,Z21 va vb a b w h g k hk gk (by omega)⟩;unfold Z27;rw[if_neg (by omega)];split<;>omega
 have HSA:Hid (∀W,Below w.heap.size w W→Calls Tryz.prog 152 #[va] W fun e w'=>e= .returned (.tuple #[.int .u64 (a:Int),.bool true])∧Qd W w'):=fun W hW=>by have:=Z0z va a W (h.below hW);rw[(Z3u ha).1,(Z3u ha).2]at this;exact this
 have HSB:Hid (∀W,Below w.heap.size w W→Calls Tryz.prog 152 #[vb] W fun e w'=>e= .returned (.tuple #[.int .u64 (b:Int),.bool true])∧Qd W w'):=fun W hW=>by have:=Z0z vb b W (g.below hW);rw[(Z3u (Nat.lt_of_le_of_lt hab ha)).1,(Z3u (Nat.lt_of_le_of_lt hab ha)).2]at this;exact this
 obtain⟨r0,hr0,hC⟩:=HC.o;have HCC:=Za hC;have hq:a / b≤a:=Nat.div_le_self a b;have hr:a % b<b:=Nat.mod_lt _ hb;have e1:IntKind.u64.wrap ((a:Int).tdiv (b:Int))=((a / b:Nat):Int):=by rw[Int.tdiv_eq_ediv_of_nonneg (by omega),←Int.natCast_ediv];exact IntWalk.u64_in _ ⟨Int.natCast_nonneg _,Int.ofNat_le.2 (show a / b≤18446744073709551615 by omega)⟩
 have e2:IntKind.u64.wrap ((a:Int).tmod (b:Int))=((a % b:Nat):Int):=by rw[Int.tmod_eq_emod_of_nonneg (by omega),←Int.natCast_emod];exact IntWalk.u64_in _ ⟨Int.natCast_nonneg _,Int.ofNat_le.2 (show a % b≤18446744073709551615 by omega)⟩
 have e5:(a:Int).tmod (b:Int)=((a % b:Nat):Int):=by rw[Int.tmod_eq_emod_of_nonneg (by omega),←Int.natCast_emod]
 have e3:(a:Int) / (b:Int)=((a / b:Nat):Int):=(Int.natCast_ediv a b).symm;have e4:(a:Int) % (b:Int)=((a % b:Nat):Int):=(Int.natCast_emod a b).symm;have HP:Hid (Z53 a b w=fun e w'=>∃v1 v2,e= .returned (.tuple #[v1,v2])∧Z09 w' v1 (a / b)∧Z09 w' v2 (a % b)∧Below w.heap.size w w'):=rfl;rw[HP.o];clear HP h g hk gk HC hC;generalize a / b=q at*;generalize a % b=r at*;have hbz:(1:Int)≤(b:Int):=by omega
 have e6:IntKind.u64.wrap (q:Int)=(q:Int):=IntWalk.u64_in _ (by omega);have e7:IntKind.u64.wrap (r:Int)=(r:Int):=IntWalk.u64_in _ (by omega);have hqb:q<18446744073709551616:=by omega
 have hrb:r<18446744073709551616:=by omega
 have hbn:¬(b:Int)=0:=by omega
 have hbn2:¬b=0:=by omega
 have hbn3:((b:Int)==0)=false:=by simp;omega
 have hbn4:b≠0:=hbn2;have HQN:Hid (∀(n:Nat) (W:World),n<18446744073709551616→Calls Tryz.prog 176 #[.int .u64 (n:Int)] W fun e w'=>∃v,e= .returned v∧Z09 w' v n∧Below W.heap.size W w'):=fun n W hn=>Z3a n W hn;go_enter Tryz.func151,Tryz.ntmps151;go_wp2_with fail;refine HCC.o.mono ?_;rintro e w2 ⟨rfl,hq2⟩;have hb2:=Za hq2.below;clear hq2;go_wp2_with fail;refine(HSA.o _ hb2.o).mono ?_;rintro e w3 ⟨rfl,hq3⟩;have hb3:=Za (Z46 hb2.o hq3);clear hq3 hb2;go_wp2_with fail;refine(HSB.o _ hb3.o).mono ?_;rintro e w4 ⟨rfl,hq4⟩;have hb4:=Za (Z46 hb3.o hq4);clear hq4 hb3;go_wp2_with fail
 go_region_held3 (fun w'=>True) (trivial) (first|(go_at_call 176;with_reducible refine(HQN.o _ _ (by omega)).mono ?_;rintro e w' ⟨v,rfl,hv,hbw⟩))
 all_goals
  go_wp2_with fail
  go_ret2
  refine⟨_,_,rfl, ?_, ?_,chain2 hb4.o (by assumption) (by assumption)⟩
  · first|assumption|exact Z09.below (by assumption) (by assumption)
  · first|assumption|exact Z09.below (by assumption) (by assumption)
theorem div_word (va vb:Value)(a b:Nat)(w:World)(h:Z09 w va a)(g:Z09 w vb b)(k:Nat)(hk:Lim k a)(gk:Lim k b)(hk2:k≤549755813888)(ha:18446744073709551616≤a)(hb:0<b)(hb2:b<4294967296):
  Calls Tryz.prog 151 #[va,vb] w (Z53 a b w):=by
 have HC:Hid (∃r:Int,0≤r∧Calls Tryz.prog 126 #[va,vb] w fun e w'=>e= .returned (.int .i64 r)∧Qd w w'):=by refine⟨Z27 a b, ?_,Z21 va vb a b w h g k hk gk (by omega)⟩;unfold Z27;rw[if_neg (by omega)];split<;>omega
 have HSA:Hid (∀W,Below w.heap.size w W→Calls Tryz.prog 152 #[va] W fun e w'=>e= .returned (.tuple #[.int .u64 ((0:Nat):Int),.bool false])∧Qd W w'):=fun W hW=>by have:=Z0z va a W (h.below hW);rw[(Z98 ha).1,(Z98 ha).2]at this;exact this
 have HDW:Hid (∀W,Below w.heap.size w W→Calls Tryz.prog 177 #[va,.int .u64 (b:Int)] W (Z53 a b W)):=fun W hW=>Z9c va a b W (h.below hW) k hk hk2 hb (by omega);obtain⟨r0,hr0,hC⟩:=HC.o;have HCC:=Za hC;clear hC HC;obtain⟨B,d,m,rfl,gr,gn,rfl⟩:=g
 have hml:m.length=1:=by
  rcases Nat.lt_trichotomy m.length 1 with e|e|e
  · have:m= []:=Zk (by omega);subst this;simp[val]at hb
  · exact e
  · have h1:=Z3q gn (by omega);have h2:W32 ^ 1≤W32 ^ (m.length - 1):=Nat.pow_le_pow_right (by decide) (by omega);have h3:W32 ^ 1=4294967296:=(by decide);omega
 have HV:Hid (val W32 m=m.getD 0 0):=(Z99 gn).2.1 hml;have HR:Hid (∀W,Below w.heap.size w W→Rd W B (uc m)):=fun W hW=>gr.below hW;have HML:=Za hml;have HP:Hid (Z53 a (val W32 m) w=fun e w'=>∃v1 v2,e= .returned (.tuple #[v1,v2])∧Z09 w' v1 (a / val W32 m)∧Z09 w' v2 (a % val W32 m)∧Below w.heap.size w w'):=rfl;rw[hml];rw[hml]at HCC;rw[HP.o];clear h hk gk gr gn ha HP hml;generalize val W32 m=b at*;go_enter Tryz.func151,Tryz.ntmps151;go_wp2_with fail;refine HCC.o.mono ?_;rintro e w2 ⟨rfl,hq2⟩;have hb2':=Za hq2.below;clear hq2;go_wp2_with fail;refine(HSA.o _ hb2'.o).mono ?_;rintro e w3 ⟨rfl,hq3⟩;have hb3:=Za (Z46 hb2'.o hq3);clear hq3 hb2';obtain⟨b1,o1,hB,hb1,hc1⟩:=Z0s (HR.o w3 hb3.o) (by rw[HML.o];omega);have d0:=hc1 0 (by rw[HML.o];omega);rw[←HV.o]at d0;simp only[Nat.add_zero]at d0;subst hB;clear hc1;go_wp2_with (go_at_call 177;refine(HDW.o _ hb3.o).mono ?_;rintro e w4 ⟨v1,v2,rfl,g1,g2,g3⟩)
 go_ret2
 exact⟨_,_,rfl,g1,g2,hb3.o.trans (g3.mono hb3.o.size)⟩
end Go.Proofs.YtcemlhbfemenpaaGreatDoor
namespace Go.Proofs.YtcemlhbfemenpaaGreatDoor
open Go.RowKit Go.Dw
def shl (t:Nat):Nat:=32 - Lib.bitLen t
theorem Z83 {t:Nat}(h0:0<t)(h1:t<4294967296):shl t<32∧(t+1)*2 ^ shl t≤4294967296∧(32 - (Lib.bitLen t:Int))=(shl t:Int):=by
 obtain⟨b1,b2,b3⟩:=Lib.bitLenAux_bounds 64 t (by omega) (by omega);have e:Lib.bitLenAux 64 t=Lib.bitLen t:=rfl;rw[e]at b1 b2 b3;have hle:Lib.bitLen t≤32:=Lib.bitLen_le t 32 (by omega) (by simpa using h1);unfold shl;refine⟨by omega, ?_,by omega⟩;have h2:(t+1)*2 ^ (32 - Lib.bitLen t)≤2 ^ Lib.bitLen t*2 ^ (32 - Lib.bitLen t):=Nat.mul_le_mul_right _ b3;rw[←Nat.pow_add,show Lib.bitLen t+(32 - Lib.bitLen t)=32 by omega]at h2;exact h2
section
variable {B:Nat}
theorem Z6h (hB:0<B){l:List Nat}{n:Nat}(hl:l.length=n+1)(hd:Ds B l):val B l<(l.getD n 0+1)*B ^ n:=by
 have h1:=Z06 (B:=B) l n;rw[show n+1=l.length by omega,List.take_length]at h1;have h2:=Z2z hB (hd.take n);rw[List.length_take,Nat.min_eq_left (by omega)]at h2;rw[h1,Nat.add_mul,Nat.one_mul,Nat.mul_comm (B ^ n)];omega
theorem shl_fit (hB:B=4294967296){m:List Nat}{n:Nat}(hl:m.length=n+1)(hd:Ds B m)(ht:0<m.getD n 0):val B m*2 ^ shl (m.getD n 0)<B ^ (n+1):=by
 have h0:m.getD n 0<4294967296:=by have:=hd.getD (by omega) n;omega
 obtain⟨_,s2,_⟩:=Z83 ht h0;have h1:=Z6h (B:=B) (by omega) hl hd;have hp:0<2 ^ shl (m.getD n 0):=Nat.pow_pos (by omega)
 calc val B m*2 ^ shl (m.getD n 0)<((m.getD n 0+1)*B ^ n)*2 ^ shl (m.getD n 0):=Nat.mul_lt_mul_of_pos_right h1 hp
  _=((m.getD n 0+1)*2 ^ shl (m.getD n 0))*B ^ n:=by rw[Nat.mul_right_comm]
  _≤4294967296*B ^ n:=Nat.mul_le_mul_right _ s2
  _=B ^ (n+1):=by rw[Nat.pow_succ,hB,Nat.mul_comm]
theorem Z22 {l:List Nat}{n:Nat}(h:val B l<B ^ n):val B (l.drop n)=0:=by
 by_cases hn:n≤l.length
 ·
  have h1:=Z1p (B:=B) l n;rw[Nat.min_eq_left hn]at h1;rcases Nat.eq_zero_or_pos (val B (l.drop n))with e|e
  · exact e
  · have:=Nat.mul_le_mul_left (B ^ n) e;omega
 · rw[List.drop_of_length_le (by omega)];rfl
theorem Z84 {l:List Nat}{n:Nat}(h:val B l<B ^ n):val B (l.take n)=val B l:=by
 have h1:=Z1p (B:=B) l n;rw[Z22 h]at h1;omega
theorem Zaa {ou:List Nat}{j n V:Nat}(hlen:j+(n+1)≤ou.length)(hd:Ds B ou)(hV:V<B ^ n)(hlt:val B (ou.drop (j+1))<V):val B ((ou.drop j).take (n+1))<V*B:=by
 have hz:val B (ou.drop (j+(n+1)))=0:=by have h1:val B (ou.drop (j+1))<B ^ n:=(by omega);have:=Z22 h1;rw[List.drop_drop,show j+1+n=j+(n+1) by omega]at this;exact this
 have hlu:val B (ou.drop j)=val B ((ou.drop j).take (n+1)):=by have h1:=Z1p (B:=B) (ou.drop j) (n+1);rw[List.drop_drop,hz]at h1;omega
 have hjl:j<ou.length:=by omega
 have hdj:val B (ou.drop j)=ou[j]+B*val B (ou.drop (j+1)):=by rw[List.drop_eq_getElem_cons hjl];rfl
 have hdg:ou[j]<B:=hd.get j hjl;rw[←hlu,hdj];have:=Nat.mul_le_mul_left B hlt;rw[Nat.mul_succ,Nat.mul_comm B V]at this;omega
theorem knuth {ou D:List Nat}{j n V qv A T:Nat}(hlen:j+(n+1)≤ou.length)(hV:V<B ^ n)(hlt:val B (ou.drop (j+1))<V)(hA:val B ou+B ^ (j+1)*T*V=A)
  (hDl:D.length=n+1) (hD:val B D=val B ((ou.drop j).take (n+1)) % V) (hq:qv=val B ((ou.drop j).take (n+1)) / V):
  val B ((ou.take j++D++ou.drop (j+(n+1))).drop j)<V∧val B (ou.take j++D++ou.drop (j+(n+1)))+B ^ j*(qv+B*T)*V=A:=by
 have hV0:0<V:=by omega
 have hz:val B (ou.drop (j+(n+1)))=0:=by have h1:val B (ou.drop (j+1))<B ^ n:=(by omega);have:=Z22 h1;rw[List.drop_drop,show j+1+n=j+(n+1) by omega]at this;exact this
 have hlu:val B (ou.drop j)=val B ((ou.drop j).take (n+1)):=by have h1:=Z1p (B:=B) (ou.drop j) (n+1);rw[List.drop_drop,hz]at h1;omega
 have hsp:=Z1p (B:=B) ou j;rw[Nat.min_eq_left (by omega),hlu]at hsp;have hdiv:=Nat.div_add_mod (val B ((ou.drop j).take (n+1))) V;rw[←hD,←hq]at hdiv;have hnew:val B (ou.take j++D++ou.drop (j+(n+1)))=val B (ou.take j)+B ^ j*val B D:=by rw[List.append_assoc,val_append,val_append,hz,List.length_take,Nat.min_eq_left (by omega)];simp
 refine⟨?_, ?_⟩
 · rw[List.append_assoc,List.drop_append_of_le_length (by rw[List.length_take];omega),List.drop_of_length_le (by rw[List.length_take];omega),List.nil_append,val_append,hz,hD];have:=Nat.mod_lt (val B ((ou.drop j).take (n+1))) hV0;omega
 · rw[hnew,←hA,hsp,←hdiv,Nat.pow_succ];rw[Nat.mul_add (B ^ j) (V*qv),Nat.mul_add (B ^ j) qv,Nat.add_mul,Nat.mul_assoc (B ^ j) B T,Nat.mul_assoc (B ^ j) qv V,Nat.mul_comm qv V];omega
theorem kn_lt {ou:List Nat}{t n X m M:Nat}(h:val B ou=X*m)(hX:X<B ^ (n+1+t))(hM:B ^ n≤M)(hlen:t+1≤ou.length)(hm:0<m):val B (ou.drop (t+1))<M*m:=by
 have h1:=Z1p (B:=B) ou (t+1);rw[Nat.min_eq_left hlen,h]at h1;have h2:X*m<B ^ (n+1+t)*m:=Nat.mul_lt_mul_of_pos_right hX hm;have h3:B ^ (t+1)*val B (ou.drop (t+1))<B ^ (t+1)*(B ^ n*m):=by rw[←Nat.mul_assoc,←Nat.pow_add,show t+1+n=n+1+t by omega];omega
 have h4:=Nat.lt_of_mul_lt_mul_left h3;exact Nat.lt_of_lt_of_le h4 (Nat.mul_le_mul_right m hM)
theorem top_pos {l:List Nat}{n:Nat}(hB:0<B)(hl:l.length=n+1)(hd:Ds B l)(h:B ^ n≤val B l):0<l.getD n 0:=by
 rcases Nat.eq_zero_or_pos (l.getD n 0)with e|e
 · exfalso;have h1:=Z6h hB hl hd;rw[e]at h1;omega
 · exact e
theorem Zdf {a b m Q U:Nat}(hm:0<m)(h:U+Q*(b*m)=a*m)(hU:U<b*m):Q=a / b∧U / m=a % b:=by
 have hb:0<b:=by
  rcases Nat.eq_zero_or_pos b with e|e
  · subst e;simp at hU
  · exact e
 have hdv:U % m=0:=by have h1:(U+Q*(b*m)) % m=0:=(by rw[h];exact Nat.mul_mod_left a m);rw[←Nat.mul_assoc,Nat.add_mul_mod_self_right]at h1;exact h1
 have hU2:U=m*(U / m):=by have:=Nat.div_add_mod U m;omega
 generalize U / m=R at*;subst hU2;have h2:R+Q*b=a:=by have h3:(R+Q*b)*m=a*m:=(by rw[←h,Nat.add_mul,Nat.mul_comm R m,Nat.mul_assoc]);exact Nat.eq_of_mul_eq_mul_right hm h3
 have h4:R<b:=by rw[Nat.mul_comm m R]at hU;exact Nat.lt_of_mul_lt_mul_right hU
 have:=Z5l (V:=a) (q:=Q) (b:=b) (r:=R) (by omega) h4;exact⟨this.1.symm,this.2.symm⟩
theorem right_step {l r:List Nat}{i m U:Nat}(hm:0<m)(hmB:m∣B)(hB:0<B)(hd:Ds B l)(hi:i<l.length)(hr:r.length=i)(h:val B r+B ^ i*(val B (l.drop i) / m)=U):
  val B (r++ [((l.getD i 0+l.getD (i+1) 0*B) / m) % B])+B ^ (i+1)*(val B (l.drop (i+1)) / m)=U:=by
 have e1:val B (l.drop i)=l.getD i 0+B*val B (l.drop (i+1)):=by rw[List.drop_eq_getElem_cons hi,Zg,Zi hi];rfl
 have e2:∃Z,val B (l.drop (i+1))=l.getD (i+1) 0+B*Z:=by
  by_cases h1:i+1<l.length
  · exact⟨val B (l.drop (i+1+1)),by rw[List.drop_eq_getElem_cons h1,Zg,Zi h1];rfl⟩
  · exact⟨0,by rw[List.drop_of_length_le (by omega),Zg,List.getElem?_eq_none (by omega)];rfl⟩
 obtain⟨Z,hZ⟩:=e2;obtain⟨t,ht⟩:=hmB;have hx:l.getD i 0<B:=hd.getD hB i;have e3:val B (l.drop i) / m / B=val B (l.drop (i+1)) / m:=by rw[Nat.div_div_eq_div_mul,Nat.mul_comm m B,←Nat.div_div_eq_div_mul,e1,Nat.add_mul_div_left _ _ hB,Nat.div_eq_of_lt hx,Nat.zero_add]
 have e4:val B (l.drop i) / m % B=((l.getD i 0+l.getD (i+1) 0*B) / m) % B:=by
  have e5:val B (l.drop i)=(l.getD i 0+l.getD (i+1) 0*B)+m*(t*Z*B):=by
   rw[e1,hZ,Nat.mul_add,Nat.mul_comm B (l.getD (i+1) 0),←Nat.add_assoc];congr 1
   conv=>lhs;arg 1;rw[ht]
   rw[Nat.mul_assoc,Nat.mul_assoc,Nat.mul_comm B Z]
  rw[e5,Nat.add_mul_div_left _ _ hm,Nat.add_mul_mod_self_right]
 rw[Z0v,hr,←e4,←e3,Nat.add_assoc,Z11,h]
end
attribute [local go_sem ↓] Go.wp_at_zero Go.wp_at_succ
theorem Qd.one (w:World):Qd w w.drew:=⟨1,rfl⟩
structure KnF (G gu gv gq n V:Nat)(ov lv:List Nat):Prop where
 gu0:G≤gu
 gq0:G≤gq
 uv:gu≠gv
 uq:gu≠gq
 vq:gv≠gq
 lve:lv=ov.take n
 len:lv.length=n
 n0:0<n
 dv:Ds W32 lv
 v:val W32 lv=V
 vl:V<W32 ^ n
 top:0<lv.getD (n - 1) 0
structure KnI (w wr:World)(G gu gv gq n t V A:Nat)(ov:List Nat)(k:Nat)(ou qd:List Nat):Prop where
 bu:Blk wr gu 177 (uc ou)
 bv:Blk wr gv 177 (uc ov)
 bq:Blk wr gq 177 (uc (List.replicate k 0++qd))
 lo:ou.length=n+t+1
 lq:k+qd.length=t+1
 du:Ds W32 ou
 dq:Ds W32 qd
 lt:val W32 (ou.drop k)<V
 eq:val W32 ou+W32 ^ k*val W32 qd*V=A
 bel:Below G w wr
theorem rd_take {w:World}{g:Nat}{l:List Nat}(h:Blk w g 177 (uc l))(n:Nat):Rd w (some ⟨g,0,none⟩) (uc (l.take n)):=by
 refine .inr ⟨g,0,rfl,h.lt,fun j u hu=> ?_⟩;rw[Nat.zero_add,h.cell,←hu];have hj:=(List.getElem?_eq_some_iff.1 hu).1;simp only[uc,List.length_map,List.length_take]at hj;simp only[uc,List.getElem?_map];rw[List.getElem?_take_of_lt (by omega)]
theorem KnI.stp {w wr:World}{G gu gv gq n t V A j:Nat}{ov lv ou qd:List Nat}(F:KnF G gu gv gq n V ov lv)(h:KnI w wr G gu gv gq n t V A ov (j+1) ou qd)(hj:j≤t):
  StpP wr gu gv j n ou ((ou.drop j).take (n+1)) lv:=by
 have hfit:j+(n+1)≤ou.length:=by rw[h.lo];omega
 refine⟨h.bu, ?_,F.uv,hfit,rfl,F.len,F.n0,h.du,F.dv,F.top, ?_⟩
 · rw[F.lve];exact rd_take h.bv n
 · rw[F.v];exact Zaa hfit h.du F.vl h.lt
theorem KnI.next {w wr w':World}{G gu gv gq n t V A j:Nat}{ov lv ou qd D:List Nat}(F:KnF G gu gv gq n V ov lv)(hG:w.heap.size=G)(h:KnI w wr G gu gv gq n t V A ov (j+1) ou qd)(hj:j≤t)
  (hDl:D.length=n+1) (hDd:Ds W32 D) (hD:val W32 D=val W32 ((ou.drop j).take (n+1)) % val W32 lv) (hb:Blk w' gu 177 (uc (ou.take j++D++ou.drop (j+(n+1))))) (hg:wr.grownBy w' (some gu)) (q:Nat) (hq:q=val W32 ((ou.drop j).take (n+1)) / val W32 lv):
  KnI w (w'.setCell ⟨gq,j,none⟩ (.int .u32 (q:Int))) G gu gv gq n t V A ov j (ou.take j++D++ou.drop (j+(n+1))) (q::qd):=by
 have hfit:j+(n+1)≤ou.length:=by rw[h.lo];omega
 rw[F.v]at hD hq;obtain⟨k1,k2⟩:=knuth (B:=W32) (T:=val W32 qd) hfit F.vl h.lt h.eq hDl hD hq;have hqw:q<W32:=by rw[hq];exact Nat.div_lt_of_lt_mul (Zaa hfit h.du F.vl h.lt)
 have b1:Blk w' gq 177 (uc (List.replicate (j+1) 0++qd)):=(hg.block gq h.bq.lt (fun e=>F.uq (by injection e with e;exact e.symm))).trans h.bq;have b2:Blk w' gv 177 (uc ov):=(hg.block gv h.bv.lt (fun e=>F.uv (by injection e with e;exact e.symm))).trans h.bv;have hB:Below G w w':=h.bel.grown hg (by have:=h.bel.size;omega) (fun k hk=>by injection hk with hk;subst hk;exact F.gu0);refine⟨?_, ?_, ?_, ?_, ?_, ?_, ?_,k1,k2,hB.setCell (p:=⟨gq,j,none⟩) F.gq0 _⟩
 · exact(Below.heap_setCell w' ⟨gq,j,none⟩ _ gu F.uq).trans hb
 · exact(Below.heap_setCell w' ⟨gq,j,none⟩ _ gv F.vq).trans b2
 · have:=b1.set_ j (.int .u32 (q:Int));rw[←Z4y,Zdd]at this;exact this
 · simp[hDl];have:=h.lo;omega
 · have:=h.lq;simp;omega
 · exact((h.du.take _).app hDd).app (h.du.drop _)
 ·
  intro x hx;rcases List.mem_cons.1 hx with e|e
  · rw[e];exact hqw
  · exact h.dq x e
theorem KnI.cell {w wr:World}{G gu gv gq n t V A j:Nat}{ov ou qd:List Nat}(h:KnI w wr G gu gv gq n t V A ov (j+1) ou qd):wr.cell? ⟨gq,j,none⟩=some (.int .u32 0)∧wr.frozen? ⟨gq,j,none⟩=false:=by
 refine⟨?_,h.bq.frozen _⟩;rw[h.bq.cell,Z6a _ _ (by simp;omega)];congr 2;rw[Zg,List.getElem?_append_left (by simp)];simp
def KnS (w:World)(G gu gv gq n t V A:Nat)(ov:List Nat)(j:Nat)(e:Ending)(w':World):Prop:=
 ∃(q:Nat) (ou qd:List Nat),e= .returned (.int .u32 (q:Int))∧w'.cell? ⟨gq,j,none⟩=some (.int .u32 0)∧w'.frozen? ⟨gq,j,none⟩=false∧Hid (KnI w (w'.setCell ⟨gq,j,none⟩ (.int .u32 (q:Int))) G gu gv gq n t V A ov j ou qd)
theorem KnI.qd {w wr W:World}{G gu gv gq n t V A k:Nat}{ov ou qd:List Nat}(h:KnI w wr G gu gv gq n t V A ov k ou qd)(hq:Qd wr W):KnI w W G gu gv gq n t V A ov k ou qd:=by
 obtain⟨m,rfl⟩:=hq;exact⟨h.bu,h.bv,h.bq,h.lo,h.lq,h.du,h.dq,h.lt,h.eq,below_drewN h.bel m⟩
theorem kn_step {w wr W:World}{G gu gv gq n t V A j:Nat}{ov lv ou qd:List Nat}(F:KnF G gu gv gq n V ov lv)(hG:w.heap.size=G)(h:KnI w wr G gu gv gq n t V A ov (j+1) ou qd)(hj:j≤t)(hn:n≤549755813888)(hq:Qd wr W)(cu cv:Nat):
  Calls Tryz.prog 180 #[.slice (some ⟨gu,j,none⟩) (n+1) cu,.slice (some ⟨gv,0,none⟩) n cv] W (KnS w G gu gv gq n t V A ov j):=by
 have h2:=h.qd hq;refine(step_any gu gv j n cu cv ou _ lv W (h2.stp F hj) hn).mono fun e w' ⟨D,h1,h3,h4,h5,h6,h7⟩=> ?_;obtain⟨c1,c2⟩:=h2.cell;have hb:w'.heap[gq]? =W.heap[gq]? :=h7.block gq h2.bq.lt (fun e=>F.uq (by injection e with e;exact e.symm));refine⟨_,_,_,h1,(World.cell?_of_block hb).trans c1, ?_,h2.next F hG hj h3 h4 h5 h6 h7 _ rfl⟩;have:Blk w' gq 177 (uc (List.replicate (j+1) 0++qd)):=hb.trans h2.bq;exact this.frozen _
structure RtI (G g s:Nat)(w wo wr:World)(ou:List Nat)(n i:Nat)(p:List Nat)(n':Nat):Prop where
 plen:p.length=i
 len:i+n'=n
 ds:Ds W32 p
 eq:val W32 p+W32 ^ i*(val W32 (ou.drop i) / 2 ^ s)=val W32 ou / 2 ^ s
 fill:Z1h wr g p n'
 bel:Below G w wr
 old:Below wo.heap.size wo wr
theorem Zdg {s:Nat}(hs:s<32):2 ^ s∣W32:=by
 have:W32=2 ^ 32:=rfl;rw[this];exact Nat.pow_dvd_pow 2 (by omega)
theorem RtI.step {G g s:Nat}{w wo wr:World}{ou p:List Nat}{n i n':Nat}(h:RtI G g s w wo wr ou n i p (n'+1))(hs:s<32)(hG:G≤g)(hg:wo.heap.size≤g)(hd:Ds W32 ou)(hi:i<ou.length)(q:Nat)(hq:q=(ou.getD i 0+ou.getD (i+1) 0*W32) / 2 ^ s):
  RtI G g s w wo (wr.setCell ⟨g,i,none⟩ (.int .u32 ((q % W32:Nat):Int))).drew ou n (i+1) (p++ [q % W32]) n':=by
 refine⟨by simp[h.plen],by have:=h.len;omega,h.ds.app (by intro x hx;simp at hx;subst hx;exact Nat.mod_lt _ (by decide)), ?_, ?_,(h.bel.setCell (p:=⟨g,i,none⟩) hG _).drew,(h.old.setCell (p:=⟨g,i,none⟩) hg _).drew⟩
 · rw[hq];exact right_step (Nat.pow_pos (by omega)) (Zdg hs) (by decide) hd hi h.plen h.eq
 · have:=h.fill.set (q % W32);rw[h.plen]at this;exact this
theorem div_big (va vb:Value)(a b:Nat)(w:World)(h:Z09 w va a)(g:Z09 w vb b)(k:Nat)(hk:Lim k a)(gk:Lim k b)(hk2:k≤549755813888)(ha:18446744073709551616≤a)(hab:b≤a)(hb:4294967296≤b):
  Calls Tryz.prog 151 #[va,vb] w (Z53 a b w):=by
 have HC:Hid (∃r:Int,0≤r∧Calls Tryz.prog 126 #[va,vb] w fun e w'=>e= .returned (.int .i64 r)∧Qd w w'):=by refine⟨Z27 a b, ?_,Z21 va vb a b w h g k hk gk (by omega)⟩;unfold Z27;rw[if_neg (by omega)];split<;>omega
 have HSA:Hid (∀W,Below w.heap.size w W→Calls Tryz.prog 152 #[va] W fun e w'=>e= .returned (.tuple #[.int .u64 ((0:Nat):Int),.bool false])∧Qd W w'):=fun W hW=>by have:=Z0z va a W (h.below hW);rw[(Z98 ha).1,(Z98 ha).2]at this;exact this
 obtain⟨r0,hr0,hC⟩:=HC.o;have HCC:=Za hC;clear hC HC;obtain⟨A,c,l,rfl,hr,hn,rfl⟩:=h;obtain⟨B,d,m,rfl,gr,gn,rfl⟩:=g;have hL:=Lim.len hn hk;have gL:=Lim.len gn gk
 have hml:2≤m.length:=by
  rcases Nat.lt_or_ge m.length 2 with e|e
  · exfalso;have:=Z2z (B:=W32) (by decide) gn.1;have h2:W32 ^ m.length≤W32 ^ 1:=Nat.pow_le_pow_right (by decide) (by omega);have h3:W32 ^ 1=4294967296:=(by decide);omega
  · exact e
 have hlm:m.length≤l.length:=by
  rcases Nat.lt_or_ge l.length m.length with h1|h1
  · have:=Nm.lt_of_len (by decide) hn.1 gn h1;omega
  · exact h1
 obtain⟨n,hnm⟩:∃n,m.length=n+1:=⟨m.length - 1,by omega⟩;obtain⟨t,hlt⟩:∃t,l.length=n+1+t:=⟨l.length - (n+1),by omega⟩;have htop:0<m.getD n 0:=by have:=gn.last (by omega);simp only[hnm,Nat.add_sub_cancel]at this;rw[Zg,Zi (by omega)];exact this
 have hw:W32=4294967296:=rfl;have t1:=gn.1.getD (B:=W32) (by decide) n;rw[hw]at t1;obtain⟨s1,s2,s3⟩:=Z83 htop t1;have HFIT:=Za (shl_fit hw hnm gn.1 htop);have HLA:Hid (∀(s:Nat) (W:World),Below w.heap.size w W→s<32→Calls Tryz.prog 179 #[.slice A (n+1+t) c,.int .u64 (s:Int)] W (Z5t (val W32 l) (2 ^ s) (n+1+t) W)):=fun s W hW hs=>by have:=Za7 A c l s W (hr.below hW) hn.1 hs (by omega);rw[hlt]at this;exact this
 have HLB:Hid (∀(s:Nat) (W:World),Below w.heap.size w W→s<32→Calls Tryz.prog 179 #[.slice B (n+1) d,.int .u64 (s:Int)] W (Z5t (val W32 m) (2 ^ s) (n+1) W)):=fun s W hW hs=>by have:=Za7 B d m s W (gr.below hW) gn.1 hs (by omega);rw[hnm]at this;exact this
 have HLZ:Hid (∀W,Calls Tryz.prog 178 #[.int .u32 (m.getD n 0:Nat)] W fun e w'=>e= .returned (.int .i64 (shl (m.getD n 0):Nat))∧w'=W):=fun W=>by have:=Any.bits_LeadingZeros32 Tryz.lays133 (m.getD n 0:Nat) W (by omega) (by omega);rw[Int.toNat_natCast,s3]at this;exact this
 have HRM:Hid (∀W,Below w.heap.size w W→∃b off,B=some ⟨b,off,none⟩∧W.cell? ⟨b,off+n,none⟩=some (.int .u32 (m.getD n 0:Nat))):=fun W hW=>by obtain⟨b,off,e,_,hc⟩:=Z0s (gr.below hW) (by omega);exact⟨b,off,e,hc n (by omega)⟩
 have hn0:1≤n:=by omega
 have HBIG:Hid (val W32 l<W32 ^ (n+1+t)):=by show _<_;rw[←hlt];exact Z2z (by decide) hn.1
 have HBGE:Hid (W32 ^ n≤val W32 m):=by show _≤_;have:=Z3q gn (by omega);rw[hnm]at this;exact this
 rw[hlt,hnm];rw[hlt,hnm]at HCC;rw[hlt]at HSA;clear ha hab hb hr hn gr gn hk gk hml hlm htop hw s2 s3 t1 hnm;generalize m.getD n 0=tp at*;generalize shl tp=s at*;have hnb:n+1+t≤549755813888:=by omega
 have HLT:=Za hlt;clear hL gL hlt;go_enter Tryz.func151,Tryz.ntmps151;go_wp2_with fail;refine HCC.o.mono ?_;rintro e w2 ⟨rfl,hq2⟩;have hb2:=Za hq2.below;clear hq2;go_wp2_with fail;refine(HSA.o _ hb2.o).mono ?_;rintro e w3 ⟨rfl,hq3⟩;have hb3:=Za (Z46 hb2.o hq3);clear hq3 hb2;obtain⟨b1,o1,hB,d0⟩:=HRM.o w3 hb3.o;subst hB;have tb1:((n:Int)+1==1)=false:=by simp;omega
 go_wp2_with fail;refine(HLZ.o _).mono ?_;rintro e w4 ⟨rfl,rfl⟩;clear d0;go_wp2_with fail;refine(HLA.o _ _ hb3.o s1).mono ?_;rintro e w5 ⟨gu,ou,rfl,u1,u2,u3,u4,u5,u6⟩;have hb5:=Za (hb3.o.trans (u6.mono hb3.o.size));have HU:=Za (And.intro u1 (And.intro u2 (And.intro u3 (And.intro u4 (And.intro u5 u6)))));clear u1 u2 u3 u4 u5 u6;go_wp2_with fail;refine(HLB.o _ _ hb5.o s1).mono ?_;rintro e w6 ⟨gv,ov,rfl,v1,v2,v3,v4,v5,v6⟩;have hb6:=Za (hb5.o.trans (v6.mono hb5.o.size));have HV:=Za (And.intro v1 (And.intro v2 (And.intro v3 (And.intro v4 (And.intro v5 v6)))));clear v1 v2 v3 v4 v5 v6;have HMKQ:(Instr.makeSlice 112 (.int .i64 ((t:Int)+1)) (.int .i64 ((t:Int)+1))).run Tryz.prog w6= .ok (.slice (some ⟨w6.heap.size,0,none⟩) (t+1) (t+1)) (w6.alloc (.cells (zs (t+1) (.int .u32 0)).toArray 177)):=Z2x _ (t+1) (by omega) (by omega) w6;have hsub:(n:Int)+1+t - ((n:Int)+1)=(t:Int):=by omega
 have hp2:0<2 ^ s:=Nat.pow_pos (by omega);have HF:Hid (KnF w.heap.size gu gv w6.heap.size (n+1) (val W32 m*2 ^ s) ov (ov.take (n+1))):=by obtain⟨u1,u2,u3,u4,u5,u6⟩:=HU.o;obtain⟨v1,v2,v3,v4,v5,v6⟩:=HV.o;have z1:=hb3.o.size;have z2:=u2.lt;have z3:=v6.size;have z4:=v2.lt;have z5:=u6.size;have ht:=Z84 (B:=W32) (l:=ov) (n:=n+1) (by rw[v5];exact HFIT.o);refine⟨by omega,by omega,by omega,by omega,by omega,rfl,by rw[List.length_take];omega,by omega,v4.take _,by rw[ht,v5],HFIT.o, ?_⟩;refine top_pos (B:=W32) (by decide) (by rw[List.length_take];omega) (v4.take _) ?_;rw[ht,v5];exact Nat.le_trans HBGE.o (Nat.le_mul_of_pos_right _ hp2)
 have HI0:Hid (KnI w (w6.alloc (.cells (zs (t+1) (.int .u32 0)).toArray 177)) w.heap.size gu gv w6.heap.size (n+1) t (val W32 m*2 ^ s) (val W32 l*2 ^ s) ov (t+1) ou []):=by
  obtain⟨u1,u2,u3,u4,u5,u6⟩:=HU.o;obtain⟨v1,v2,v3,v4,v5,v6⟩:=HV.o;have z4:=v2.lt;have z2:=u2.lt;have z3:=v6.size;have e:uc (List.replicate (t+1) 0++ [])=zs (t+1) (.int .u32 0):=by simp[uc,zs]
  refine⟨(Below.heap_alloc w6 _ gu (by omega)).trans ((v6.block gu (by omega)).trans u2),(Below.heap_alloc w6 _ gv z4).trans v2, ?_,u3,by simp,u4,Ds.nil, ?_, ?_,hb6.o.alloc hb6.o.size _⟩
  · rw[e];exact Blk.new _ _ _
  · exact kn_lt (B:=W32) u5 HBIG.o HBGE.o (by rw[u3];omega) hp2
  · simp[val];exact u5
 have HQ:Hid (val W32 l=val W32 l∧val W32 m=val W32 m):=⟨rfl,rfl⟩;generalize hG:w.heap.size=G at*;have HG:=Za hG;clear hG HU HV HFIT HBIG HBGE HQ;go_wp2_with fail;clear HMKQ hsub
 go_loopw [15] (fun jv wr=>∃(k:Nat) (ou qd:List Nat),((∃j:Nat,jv= .int .i64 (j:Int)∧k=j+1)∨(jv= .int .i64 (-1)∧k=0))∧k≤t+1∧Hid (KnI w wr G gu gv w6.heap.size (n+1) t (val W32 m*2 ^ s) (val W32 l*2 ^ s) ov k ou qd)) (fun jv _=>(intOf jv+1).toNat)
 case atStart=>exact⟨t+1,ou,[],.inl ⟨t,rfl,rfl⟩,Zh _,HI0.o⟩
 case round=>
  clear HI0;obtain⟨k,ou,qd,hkv,hkl,HI⟩:=hrel;obtain⟨wo,hwo⟩:∃wo,wo=wr:=⟨_,rfl⟩;subst hwo;rcases hkv with⟨j,rfl,rfl⟩|⟨rfl,rfl⟩
  ·
   have HST:Hid (∀(W:World) (cu cv:Nat),Qd wo W→Calls Tryz.prog 180 #[.slice (some ⟨gu,j,none⟩) (n+1+1) cu,.slice (some ⟨gv,0,none⟩) (n+1) cv] W (KnS w G gu gv w6.heap.size (n+1) t (val W32 m*2 ^ s) (val W32 l*2 ^ s) ov j)):=fun W cu cv hq=>kn_step HF.o HG.o HI.o (by omega) (by omega) hq cu cv;have y0:(0:Int)≤(j:Int):=(by omega);have y1:(j:Int)<(t:Int)+1:=(by omega);have y2:IntKind.i64.wrap ((j:Int)+((n:Int)+1))=(j:Int)+((n:Int)+1):=IntWalk.i64_in _ (by omega);have y3:IntKind.i64.wrap ((j:Int)+((n:Int)+1)+1)=(j:Int)+((n:Int)+1)+1:=IntWalk.i64_in _ (by omega);have y4:(j:Int)≤(j:Int)+((n:Int)+1)+1:=(by omega);have y5:(j:Int)+((n:Int)+1)+1≤(n:Int)+1+(t:Int)+1:=(by omega);have y6:(0:Int)≤(n:Int)+1:=(by omega);have y7:(n:Int)+1≤(n:Int)+1+1:=(by omega);have y8:¬n+1+t+1=j:=(by omega);have y9:((j:Int)+((n:Int)+1)+1).toNat - j=n+1+1:=(by omega);go_wp2_with fail
   go_region_held3 (fun w'=>True) (trivial) (first|(go_at_call 180; (with_reducible refine(HST.o _ _ _ (Qd.one _)).mono ?_);rintro e w' ⟨q,ou2,qd2,rfl,c1,c2,HK⟩))
   go_wp2_with fail;go_roundw
   case rel=>
    refine⟨j,ou2,qd2, ?_,by omega,HK.o⟩;cases j with
    |zero=>exact .inr ⟨by simp,rfl⟩
    |succ j=>exact .inl ⟨j,by go_num,rfl⟩
   case measure=>simp[intOf]
  ·
   have HBO:=Za (HI.o.bel.size);have HMKR:(Instr.makeSlice 112 (.int .i64 ((n:Int)+1)) (.int .i64 ((n:Int)+1))).run Tryz.prog wo= .ok (.slice (some ⟨wo.heap.size,0,none⟩) (n+1) (n+1)) (wo.alloc (.cells (zs (n+1) (.int .u32 0)).toArray 177)):=Z2x _ (n+1) (by omega) (by omega) wo;have HGo:Hid (G≤wo.heap.size):=by show _≤_;have:=HI.o.bel.size;have:=HF.o.gu0;have:=HI.o.bu.lt;omega
   have HR0:Hid (RtI G wo.heap.size s w wo (wo.alloc (.cells (zs (n+1) (.int .u32 0)).toArray 177)) ou (n+1) 0 [] (n+1)):=
    ⟨rfl,by omega,Ds.nil,by simp[val],Z1h.start wo _,HI.o.bel.alloc HGo.o _,(Zm _ _).alloc (Zh _) _⟩
   go_wp2_with fail;clear HMKR
   go_loopw [100] (fun iv wr=>∃(i:Nat) (p:List Nat) (n':Nat),i≤n+1∧iv= .int .i64 (i:Int)∧Hid (RtI G wo.heap.size s w wo wr ou (n+1) i p n')) (fun iv _=>n+1 - (intOf iv).toNat)
   case atStart=>exact⟨0,[],n+1,Nat.zero_le _,rfl,HR0.o⟩
   case round=>
    obtain⟨i,p,n',hi,rfl,HR⟩:=hrel;clear HR0;have HBU:Hid (Blk wr gu 177 (uc ou)):=(HR.o.old.block gu HI.o.bu.lt).trans HI.o.bu;by_cases hil:i<n+1
    case neg=>
     have hii:i=n+1:=(by omega);have hn0':n'=0:=(by have:=HR.o.len;omega);subst hn0';have HKE:Hid (val W32 qd=val W32 l / val W32 m∧val W32 ou / 2 ^ s=val W32 l % val W32 m):=(by have h1:=HI.o.eq;have h2:=HI.o.lt;rw[List.drop_zero]at h2;rw[Nat.pow_zero,Nat.one_mul]at h1;exact Zdf hp2 h1 h2);have HPV:Hid (val W32 p=val W32 l % val W32 m):=(by show _=_;have h1:=HR.o.eq;have h2:=HI.o.lt;rw[List.drop_zero]at h2;have h3:val W32 (ou.drop i)=0:=(by rw[hii];exact Z22 (Nat.lt_trans h2 HF.o.vl));rw[h3,Nat.zero_div,Nat.mul_zero,Nat.add_zero]at h1;rw[h1];exact HKE.o.2);have HBQ:Hid (Blk wr w6.heap.size 177 (uc qd)):=(by show Blk _ _ _ _;have:=(HR.o.old.block w6.heap.size HI.o.bq.lt).trans HI.o.bq;rw[List.replicate_zero,List.nil_append]at this;exact this);have HRQ:=Za (Blk.rd HBQ.o);have HRP:Hid (Rd wr (some ⟨wo.heap.size,0,none⟩) (uc p)):=(by show Rd _ _ _;have:=Blk.rd HR.o.fill;simpa using this);have HLQ:Hid (qd.length=t+1):=(by show _=_;have:=HI.o.lq;omega);have HLP:Hid (p.length=n+1):=(by show _=_;rw[HR.o.plen,hii]);have HT1:Hid (∀W,W=wr→Calls Tryz.prog 154 #[.slice (some ⟨w6.heap.size,0,none⟩) (t+1) (t+1)] W fun e w'=>e= .returned (.slice (some ⟨w6.heap.size,0,none⟩) (Z0f qd).length (t+1))∧W=w'):=fun W hW=>(by subst hW;have:=Z0w (some ⟨w6.heap.size,0,none⟩) (t+1) qd _ HRQ.o (by rw[HLQ.o];omega) (by rw[HLQ.o];omega) (by omega);rw[HLQ.o]at this;exact this);have HT2:Hid (∀W,W=wr→Calls Tryz.prog 154 #[.slice (some ⟨wo.heap.size,0,none⟩) (n+1) (n+1)] W fun e w'=>e= .returned (.slice (some ⟨wo.heap.size,0,none⟩) (Z0f p).length (n+1))∧W=w'):=fun W hW=>(by subst hW;have:=Z0w (some ⟨wo.heap.size,0,none⟩) (n+1) p _ HRP.o (by rw[HLP.o];omega) (by rw[HLP.o];omega) (by omega);rw[HLP.o]at this;exact this);subst hii;go_wp2_with fail;refine(HT1.o _ rfl).mono ?_;rintro e w8 ⟨rfl,rfl⟩;go_wp2_with fail;refine(HT2.o _ rfl).mono ?_;rintro e w9 ⟨rfl,rfl⟩;go_wp2_with fail
     go_ret2
     refine⟨_,_,rfl, ?_, ?_,HG.o▸HR.o.bel⟩
     · have:=Z0q (c:=t+1) HRQ.o HI.o.dq;rw[HKE.o.1]at this;exact this
     · have:=Z0q (c:=n+1) HRP.o HR.o.ds;rw[HPV.o]at this;exact this
    obtain⟨n',rfl⟩:∃n2,n'=n2+1:=⟨n' - 1,by have:=HR.o.len;omega⟩;obtain⟨e1,f1⟩:=HR.o.fill.cell;rw[HR.o.plen]at e1 f1;have hlo:Hid (ou.length=n+1+t+1):=HI.o.lo;have u1:wr.cell? ⟨gu,i,none⟩=some (.int .u32 (ou.getD i 0:Nat)):=(by rw[HBU.o.cell,Z6a _ _ (by rw[hlo.o];omega)]);have u2:wr.cell? ⟨gu,i+1,none⟩=some (.int .u32 (ou.getD (i+1) 0:Nat)):=(by rw[HBU.o.cell,Z6a _ _ (by rw[hlo.o];omega)]);have x1:=HI.o.du.getD (by decide) i;have x2:=HI.o.du.getD (by decide) (i+1);have HSTP:Hid (∀q:Nat,q=(ou.getD i 0+ou.getD (i+1) 0*W32) / 2 ^ s→RtI G wo.heap.size s w wo (wr.setCell ⟨wo.heap.size,i,none⟩ (.int .u32 ((q % W32:Nat):Int))).drew ou (n+1) (i+1) (p++ [q % W32]) n'):=fun q hq=>HR.o.step s1 HGo.o (Zh _) HI.o.du (by rw[hlo.o];omega) q hq;have hw:W32=4294967296:=rfl;rw[hw]at x1 x2 HSTP;clear hw HR HBU;generalize ou.getD i 0=x at*;generalize ou.getD (i+1) 0=y at*;have ho:=or_nat x y x1 x2;obtain⟨z,hz⟩:∃z:Nat,z=x+y*4294967296:=⟨_,rfl⟩;have hzb:z<18446744073709551616:=(by omega);rw[←hz]at HSTP ho;obtain⟨q,hq⟩:∃q:Nat,q=z / 2 ^ s:=⟨_,rfl⟩;have HR2:=Za (HSTP.o q hq);have hqb:q<18446744073709551616:=(by rw[hq];exact Nat.lt_of_le_of_lt (Nat.div_le_self _ _) hzb);have hsh:(z:Int) / 2 ^ s=(q:Int):=(by rw[hq,Int.natCast_ediv];simp);have hqm:(q:Int) % 4294967296=((q % 4294967296:Nat):Int):=(by omega);have HR3:Hid (RtI G wo.heap.size s w wo (wr.setCell ⟨wo.heap.size,i,none⟩ (.int .u32 (bits .or .u64 (x:Int) ((y:Int)*4294967296) / 2 ^ s % 4294967296))).drew ou (n+1) (i+1) (p++ [q % 4294967296]) n'):=(by rw[ho,hsh,hqm];exact HR2.o);clear HSTP hq hz HR2 hqm hsh hqb hzb ho;have y0:(0:Int)≤(i:Int):=(by omega);have y1:(i:Int)<(n:Int)+1:=(by omega);have y2:(i:Int)<(n:Int)+1+(t:Int)+1:=(by omega);have y3:IntKind.i64.wrap ((i:Int)+1)=(i:Int)+1:=IntWalk.i64_in _ (by omega);have y4:(0:Int)≤(i:Int)+1:=(by omega);have y5:(i:Int)+1<(n:Int)+1+(t:Int)+1:=(by omega);have y6:((i:Int)+1).toNat=i+1:=(by omega);have y7:(0:Int)≤(s:Int):=(by omega);have y8:(s:Int)≤64:=(by omega);go_wp2_with fail
    go_still_tail 19,(by kernel_rfl)
    change wpList _ _ _ _ _ wr.drew;clear y0 y1 y2 y3 y4 y5 y6 y7 y8 u1 u2;go_wp2_with fail;go_roundw
    case rel=>exact⟨i+1,_,n',by omega,by go_num,HR3.o⟩
    case measure=>simp[intOf];omega
theorem Z79 (va vb:Value)(a b:Nat)(w:World)(h:Z09 w va a)(g:Z09 w vb b)(k:Nat)(hk:Lim k a)(gk:Lim k b)(hk2:k≤549755813888)(hb:0<b):
  Calls Tryz.prog 151 #[va,vb] w (Z53 a b w):=by
 rcases Nat.lt_or_ge a b with h1|h1
 · exact div_lt va vb a b w h g k hk gk hk2 h1
 ·
  rcases Nat.lt_or_ge a 18446744073709551616 with h2|h2
  · exact Zde va vb a b w h g k hk gk hk2 h1 hb h2
  ·
   rcases Nat.lt_or_ge b 4294967296 with h3|h3
   · exact div_word va vb a b w h g k hk gk hk2 h2 hb h3
   · exact div_big va vb a b w h g k hk gk hk2 h2 h1 h3
end Go.Proofs.YtcemlhbfemenpaaGreatDoor
namespace Go.Proofs.YtcemlhbfemenpaaGreatDoor
open Go.RowKit Go.Dw
def Zdh (n:Nat)(w:World)(e:Ending)(w':World):Prop:=∃v,e= .returned v∧Z09 w' v n∧Below w.heap.size w w'
theorem Z85 {w:World}{v:Value}{n:Nat}(h:Z09 w v n):∃A c L,v= .slice A L c∧(L=0↔n=0):=by
 obtain⟨A,c,l,rfl,_,hn,rfl⟩:=h;refine⟨A,c,l.length,rfl, ?_⟩;rw[hn.zero_iff (by decide)];exact⟨fun e=>Zk e,fun e=>by rw[e];rfl⟩
theorem Zdi (va vb:Value)(a b:Nat)(w:World)(h:Z09 w va a)(g:Z09 w vb b)(k:Nat)(hk:Lim k a)(gk:Lim k b)(hk2:k≤549755813888):
  Calls Tryz.prog 150 #[va,vb] w (Zdh (Nat.gcd a b) w):=by
 have H0:Hid (Z09 w va a∧Z09 w vb b∧Lim k a∧Lim k b):=⟨h,g,hk,gk⟩;obtain⟨G,hG⟩:∃G,Nat.gcd a b=G:=⟨_,rfl⟩;rw[hG];have HG:=Za hG;clear h g hk gk hG;go_enter Tryz.func150,Tryz.ntmps150
 go_wp2
 go_loopg [0,1] b (fun y v0 v1 wr=>∃x:Nat,Hid (Z09 wr v0 x∧Z09 wr v1 y∧Lim k x∧Lim k y∧Nat.gcd x y=G∧Below w.heap.size w wr))
 case atStart=>exact⟨a,H0.o.1,H0.o.2.1,H0.o.2.2.1,H0.o.2.2.2,HG.o,Zm _ _⟩
 case round=>
  clear H0 HG;obtain⟨x,HI⟩:=hrel;obtain⟨y,hy⟩:∃y,y=gk:=⟨_,rfl⟩;subst hy;obtain⟨A,c,L,e1,_⟩:=Z85 HI.o.1;obtain⟨B,d,M,e2,hM⟩:=Z85 HI.o.2.1;subst e1 e2;by_cases hy:y=0
  ·
   have hM0:M=0:=hM.2 hy;subst hM0;have HX:Hid (x=G):=(by show _=_;have:=HI.o.2.2.2.2.1;rw[hy,Nat.gcd_zero_right]at this;exact this);clear hM hy
   go_wp2
   go_ret;exact⟨_,rfl,by rw[←HX.o];exact HI.o.1,HI.o.2.2.2.2.2⟩
  have hMp:0<M:=by
   rcases Nat.eq_zero_or_pos M with e|e
   · exact absurd (hM.1 e) hy
   · exact e
  clear hM;have HB0:=Za HI.o.2.2.2.2.2;have HSA:Hid (∀W,Below wr.heap.size wr W→Calls Tryz.prog 152 #[.slice A L c] W fun e w'=>e= .returned (.tuple #[.int .u64 (smN x:Nat),.bool (smB x)])∧Qd W w'):=fun W hW=>Z0z _ x W (HI.o.1.below hW);have HSB:Hid (∀W,Below wr.heap.size wr W→Calls Tryz.prog 152 #[.slice B M d] W fun e w'=>e= .returned (.tuple #[.int .u64 (smN y:Nat),.bool (smB y)])∧Qd W w'):=fun W hW=>Z0z _ y W (HI.o.2.1.below hW);have HDV:Hid (∀W,Below wr.heap.size wr W→Calls Tryz.prog 151 #[.slice A L c,.slice B M d] W (Z53 x y W)):=fun W hW=>Z79 _ _ x y W (HI.o.1.below hW) (HI.o.2.1.below hW) k HI.o.2.2.1 HI.o.2.2.2.1 hk2 (by omega);have HRW:Hid (∀W,Below wr.heap.size wr W→Below w.heap.size w W):=fun W hW=>HB0.o.trans (hW.mono HB0.o.size);obtain⟨ba,hba⟩:∃v,smB x=v:=⟨_,rfl⟩;obtain⟨bb,hbb⟩:∃v,smB y=v:=⟨_,rfl⟩;obtain⟨na,hna⟩:∃v,smN x=v:=⟨_,rfl⟩;obtain⟨nb,hnb⟩:∃v,smN y=v:=⟨_,rfl⟩;rw[hba,hna]at HSA;rw[hbb,hnb]at HSB;have HN:=Za (And.intro hba (And.intro hbb (And.intro hna hnb)));have HY:=Za hy;clear hba hbb hna hnb hy
  have HTL:Hid (∀W vr,Z09 W vr (x % y)→Below wr.heap.size wr W→Z09 W (.slice B M d) y∧Z09 W vr (x % y)∧Lim k y∧Lim k (x % y)∧Nat.gcd y (x % y)=G∧Below w.heap.size w W):=fun W vr hv hW=>
   ⟨HI.o.2.1.below hW,hv,HI.o.2.2.2.1,HI.o.2.2.1.le (Nat.mod_le _ _),by rw[Nat.gcd_comm,←Nat.gcd_rec,Nat.gcd_comm];exact HI.o.2.2.2.2.1,HRW.o W hW⟩
  have HML:Hid (x % y<y):=Nat.mod_lt _ (by have:=HY.o;omega);go_wp2_with fail;refine(HSA.o _ (Zm _ _)).mono ?_;rintro e w2 ⟨rfl,hq2⟩;have hb2:=Za hq2.below;clear hq2;go_wp2_with fail;refine(HSB.o _ hb2.o).mono ?_;rintro e w3 ⟨rfl,hq3⟩;have hb3:=Za (Z46 hb2.o hq3);clear hq3 hb2;by_cases hbo:ba=true∧bb=true
  ·
   obtain⟨rfl,rfl⟩:=hbo;have HXY:Hid (na=x∧nb=y∧x<18446744073709551616∧y<18446744073709551616):=(by obtain⟨h1,h2,h3,h4⟩:=HN.o;have g1:x<18446744073709551616:=of_decide_eq_true h1;have g2:y<18446744073709551616:=of_decide_eq_true h2;exact⟨h3.symm.trans (Z3u g1).1,h4.symm.trans (Z3u g2).1,g1,g2⟩);have HG:Hid (Nat.gcd na nb=G):=(by show _=_;rw[HXY.o.1,HXY.o.2.1];exact HI.o.2.2.2.2.1);have na1:na<18446744073709551616:=(by have:=HXY.o;omega);have nb1:nb<18446744073709551616:=(by have:=HXY.o;omega);clear HN HXY HSA HSB HDV HTL HML HI;go_wp2_with fail
   go_loopw [5,7] (fun pv qv wx=>Qd w3 wx∧∃p q:Nat,pv= .int .u64 (p:Int)∧qv= .int .u64 (q:Int)∧p<18446744073709551616∧q<18446744073709551616∧Hid (Nat.gcd p q=G)) (fun _ qv _=>(intOf qv).toNat)
   case atStart=>exact⟨Qd.refl _,na,nb,rfl,rfl,na1,nb1,HG.o⟩
   case round=>
    obtain⟨⟨nd,rfl⟩,p,q,rfl,rfl,hp,hq,HPQ⟩:=hrel;have hb5:=Za (below_drewN hb3.o nd);by_cases hq0:q=0
    · subst hq0;have HP:Hid (p=G):=(by show _=_;have:=HPQ.o;rw[Nat.gcd_zero_right]at this;exact this);have HNO:Hid (Calls Tryz.prog 176 #[.int .u64 (p:Int)] (w3.drewN nd) fun e w'=>∃v,e= .returned v∧Z09 w' v p∧Below (w3.drewN nd).heap.size (w3.drewN nd) w'):=Z3a p _ hp;clear HPQ;go_wp2_with fail;refine HNO.o.mono ?_;rintro e w4 ⟨v,rfl,hv,hb4⟩;go_wp2_with fail;go_ret;have hW:=HRW.o _ hb5.o;exact⟨_,rfl,by rw[←HP.o];exact hv,hW.trans (hb4.mono hW.size)⟩
    ·
     have hqp:0<q:=(by omega);have hqz:(1:Int)≤(q:Int):=(by omega);have hml:=Nat.mod_lt p hqp;have e5:(p:Int).tmod (q:Int)=((p % q:Nat):Int):=(by rw[Int.tmod_eq_emod_of_nonneg (by omega),←Int.natCast_emod]);have hqn:¬(q:Int)=0:=(by omega);have hqn3:((q:Int)==0)=false:=(by simp;omega);have HG2:Hid (Nat.gcd q (p % q)=G):=(by show _=_;rw[Nat.gcd_comm,←Nat.gcd_rec,Nat.gcd_comm];exact HPQ.o);have hrb:p % q<18446744073709551616:=(by omega);clear HPQ;generalize p % q=r at*;have e6:IntKind.u64.wrap (r:Int)=(r:Int):=IntWalk.u64_in _ (by omega)
     go_wp2
     go_quiet (fail)
     go_wp2
     go_roundw
     case rel=>exact⟨Qd.more ⟨_,rfl⟩ _,q,r,rfl,rfl,hq,hrb,HG2.o⟩
     case measure=>simp[intOf];omega
  ·
   have hp:(ba && bb)=false:=(by cases ba<;>cases bb<;>simp_all);have HQ:=Za hp;clear hp;have HT:=Za (HDV.o w3 hb3.o);clear HSA HSB HDV HN HI;cases ba<;>cases bb
   case true.true=>exact absurd ⟨rfl,rfl⟩ hbo
   all_goals
    clear hbo HQ;go_wp2_with fail;refine HT.o.mono ?_;rintro e w4 ⟨v1,v2,rfl,g1,g2,g3⟩;have HR:=Za (HTL.o w4 v2 g2 (hb3.o.trans (g3.mono hb3.o.size)));clear g1 g2 g3;go_wp2_with fail
    go_roundg (x % y)
    case measure=>exact HML.o
    case rel=>exact⟨y,HR.o⟩
theorem ownU_set {w:World}{base e size g n cap:Nat}{xs:List Value}(h:w.ownsRow base e size (.slice (some ⟨g,0,none⟩) n cap) n xs)(i:Nat)(u:Value):
  (w.setCell ⟨g,i,none⟩ u).ownsRow base e size (.slice (some ⟨g,0,none⟩) n cap) n (xs.set i u):=by
 obtain⟨h1,h2⟩:=h;refine⟨by rw[List.length_set];exact h1, ?_⟩;rcases h2 with⟨h2,_⟩|⟨g',cap',cur,hv,hb,hg,hn,hm,hs,ht⟩
 · cases h2
 ·
  injection hv with hv1 hv2 hv3;injection hv1 with hv1;injection hv1 with hv1;subst hv1 hv3;refine .inr ⟨g,cap,cur.setIfInBounds i u,rfl,hb, ?_,hn,hm,by simpa using hs, ?_⟩
  · simp[World.setCell,Array.getElem?_modify,hg]
  · rw[←ht];simp[List.take_set]
theorem Zdj {w:World}{base e size n:Nat}{v:Value}{xs:List Value}(h:w.ownsRow base e size v n xs)(hn:0<n):∃g cap,v= .slice (some ⟨g,0,none⟩) n cap∧base≤g∧g<w.heap.size∧(∀i,w.frozen? ⟨g,i,none⟩=false)∧(∀i u,xs[i]? =some u→w.cell? ⟨g,i,none⟩=some u):=by
 rcases h.2 with⟨_,rfl⟩|⟨g,cap,cur,rfl,hb,hg,_⟩
 · omega
 · refine⟨g,cap,rfl,hb,(Array.getElem?_eq_some_iff.1 hg).1,fun i=>by simp[World.frozen?,hg],fun i u hu=> ?_⟩;have:=h.cells (g:=g) rfl i u hu;have hadd:(⟨g,0,none⟩:Addr).add i=⟨g,i,none⟩:=(by unfold Addr.add;split<;>simp_all);rw[←hadd];exact this
theorem ba_len (s:ByteArray):s.data.toList.length=s.size:=by rw[Zo];rfl
theorem ba_at (s:ByteArray)(k:Nat)(h:k<s.size):s.data.toList[k]'(by rw[ba_len];exact h)=s[k]:=rfl
theorem ba_take (s:ByteArray)(k:Nat)(h:k<s.size):s.data.toList.take (k+1)=s.data.toList.take k++ [s[k]]:=by
 rw[List.take_succ_eq_append_getElem (by rw[ba_len];exact h)];rfl
theorem ba_dig {s:ByteArray}(h:s.data.toList.all isD=true)(k:Nat)(hk:k<s.size):48≤s[k].toNat∧s[k].toNat≤57:=by
 rw[List.all_eq_true]at h;exact Z6d (h _ (by rw[←ba_at s k hk];exact Zn _))
structure TxI (w wr:World)(v:Value)(l:List Nat)(t:ByteArray)(V:Nat):Prop where
 own:wr.ownsRow w.heap.size 177 1 v l.length (uc l)
 nm:Nm W32 l
 dig:t.data.toList.all isD=true
 eq:val W32 l*10 ^ t.size+Z0e t.data.toList=V
 bel:Below w.heap.size w wr
structure ScI (w wr:World)(v:Value)(l o:List Nat)(s ch i c:Nat):Prop where
 own:wr.ownsRow w.heap.size 177 1 v l.length (uc o)
 len:o.length=l.length
 ds:Ds W32 o
 dr:o.drop i=l.drop i
 cw:c<W32
 eq:val W32 (o.take i)+W32 ^ i*c=val W32 (l.take i)*s+ch
 bel:Below w.heap.size w wr
theorem ScI.getD {w wr:World}{v:Value}{l o:List Nat}{s ch i c:Nat}(h:ScI w wr v l o s ch i c):o.getD i 0=l.getD i 0:=by
 have h1:=h.dr;have hl:=h.len;have h2:(o.drop i)[0]? =(l.drop i)[0]? :=by rw[h1]
 rw[List.getElem?_drop,List.getElem?_drop,Nat.add_zero]at h2;rw[Zg,Zg,h2]
theorem ScI.step {w wr:World}{g n cap:Nat}{l o:List Nat}{s ch i c:Nat}(h:ScI w wr (.slice (some ⟨g,0,none⟩) n cap) l o s ch i c)(hn:n=l.length)(hg:w.heap.size≤g)(hi:i<l.length)(x:Nat)(hx:x=c+s*l.getD i 0)(hq:x / W32<W32):
  ScI w (wr.setCell ⟨g,i,none⟩ (.int .u32 ((x % W32:Nat):Int))) (.slice (some ⟨g,0,none⟩) n cap) l (o.set i (x % W32)) s ch (i+1) (x / W32):=by
 subst hn;obtain⟨h1,h2⟩:=sca_step (B:=W32) (a:=l) (o:=o) (i:=i) (c:=c) (s:=s) (V:=ch) (by rw[h.len];exact hi) h.dr h.eq;rw[←hx]at h1 h2;refine⟨?_,by simp[h.len],h.ds.set _ _ (Nat.mod_lt _ (by decide)),h2,hq,h1,h.bel.setCell (p:=⟨g,i,none⟩) hg _⟩;rw[Z4y];exact ownU_set h.own i _
theorem infoUp:(Tryz.prog.info? 177).map (fun i=>(i.zero,i.size,i.bytes))=some (some (.int .u32 0),1,4):=by kernel_rfl
theorem TxI.group {w wr:World}{v:Value}{l:List Nat}{t:ByteArray}{V:Nat}(h:TxI w wr v l t V)(k:Nat)(hk:k≤t.size):
  (val W32 l*10 ^ k+Z0e (t.data.toList.take k))*10 ^ (t.extract k t.size).size+Z0e (t.extract k t.size).data.toList=V∧(t.extract k t.size).data.toList.all isD=true∧(t.extract k t.size).size=t.size - k:=by
 have e1:(t.extract k t.size).data.toList=t.data.toList.drop k:=Lib.extract_to_end t k;have e2:(t.extract k t.size).size=t.size - k:=by rw[←ba_len,e1,List.length_drop,ba_len]
 refine⟨?_,by rw[e1];exact Z6w h.dig k,e2⟩;rw[e2,e1,←h.eq]
 have e3:Z0e t.data.toList=Z0e (t.data.toList.take k)*10 ^ (t.size - k)+Z0e (t.data.toList.drop k):=by
  conv=>lhs;rw[←List.take_append_drop k t.data.toList]
  exact Z3h _ _ _ (by rw[List.length_drop,ba_len])
 have e4:10 ^ t.size=10 ^ k*10 ^ (t.size - k):=by rw[←Nat.pow_add];congr 1;omega
 rw[e3,e4,Nat.add_mul,Nat.mul_assoc];omega
theorem ScI.start {w wr:World}{v:Value}{l:List Nat}{t:ByteArray}{V:Nat}(h:TxI w wr v l t V)(s ch:Nat)(hc:ch<W32):ScI w wr v l l s ch 0 ch:=
 ⟨h.own,rfl,h.nm.1,rfl,hc,by simp[val],h.bel⟩
theorem ScI.end0 {w wr:World}{v:Value}{l o:List Nat}{s ch:Nat}(h:ScI w wr v l o s ch l.length 0)(hn:Nm W32 l)(hs:0<s):Nm W32 o∧val W32 o=val W32 l*s+ch:=by
 have e:=h.eq;rw[Zl (by rw[h.len];exact Zh _),List.take_length,Nat.mul_zero,Nat.add_zero]at e;refine⟨Nm.of_ge (by decide) h.ds (fun hl=> ?_),e⟩;rw[h.len]at hl⊢;have h1:=Z3q hn hl;rw[e];exact Nat.le_trans h1 (Nat.le_trans (Nat.le_mul_of_pos_right _ hs) (Nat.le_add_right _ _))
theorem ScI.end1 {w wr:World}{v:Value}{l o:List Nat}{s ch c:Nat}(h:ScI w wr v l o s ch l.length c)(hc:0<c):Nm W32 (o++ [c])∧val W32 (o++ [c])=val W32 l*s+ch:=by
 have e:=h.eq;rw[Zl (by rw[h.len];exact Zh _),List.take_length]at e;refine⟨Nm.mk' (h.ds.app (by intro x hx;simp at hx;subst hx;exact h.cw)) (fun hl=>by simpa using hc), ?_⟩;rw[Z0v,h.len,e]
theorem Zdk (i:Nat)(h:i≤9):10 ^ i≤1000000000:=by
 have:10 ^ i≤10 ^ 9:=Nat.pow_le_pow_right (by omega) h;simpa using this
theorem Z5u (s:ByteArray)(w:World)(hs:s.size≤1099511627776)(hd:s.data.toList.all isD=true):
  Calls Tryz.prog 125 #[.string s] w (Zdh (Z0e s.data.toList) w):=by
 have H0:Hid (TxI w w (.slice none 0 0) [] s (Z0e s.data.toList)):=⟨⟨rfl,.inl ⟨rfl,rfl⟩⟩,Nm.nil,hd,by simp[val],Zm _ _⟩;have HLB:Hid (Z0e s.data.toList<W32 ^ s.size):=by show _<_;have h1:=Z4p _ s.data.toList rfl hd;rw[ba_len]at h1;exact Nat.lt_of_lt_of_le h1 (Nat.pow_le_pow_left (by decide) _)
 obtain⟨i0,hi,hz0,hz1,hz2⟩:=info_parts infoUp;have HII:=Za (And.intro hi (And.intro hz0 (And.intro hz1 hz2)));clear hi hz0 hz1 hz2;generalize Z0e s.data.toList=V at*;clear hd;obtain⟨S,hS⟩:∃S,s.size=S:=⟨_,rfl⟩;have HS:Hid (s.size≤S):=by show _≤_;omega
 rw[hS]at HLB hs;clear hS;go_enter Tryz.func125,Tryz.ntmps125
 go_wp2
 go_loopw [0,3] (fun sv av wr=>∃(t:ByteArray) (l:List Nat) (A:Option Addr) (cap:Nat),sv= .string t∧t.size≤S∧av= .slice A l.length cap∧l.length≤S∧Hid (TxI w wr (.slice A l.length cap) l t V)) (fun sv _ _=>match sv with| .string t=>t.size|_=>0)
 case atStart=>exact⟨s,[],none,0,rfl,HS.o,rfl,Nat.zero_le _,H0.o⟩
 case round=>
  clear H0 HS;obtain⟨t,l,A,cap,rfl,hts,rfl,hlS,HI⟩:=hrel;obtain⟨wo,hwo⟩:∃wo,wo=wr:=⟨_,rfl⟩;subst hwo;by_cases ht0:t.size=0
  · have HV:Hid (val W32 l=V):=(by show _=_;have h1:=HI.o.eq;have h2:t.data.toList= []:=Zk (by rw[ba_len];exact ht0);rw[ht0,h2,Nat.pow_zero,Nat.mul_one]at h1;exact h1);go_wp2_with fail;go_ret;refine⟨_,rfl,⟨A,cap,l,rfl,Rd.of_own HI.o.own,HI.o.nm,HV.o⟩,HI.o.bel⟩
  have htp:0<t.size:=by omega
  obtain⟨k,hk⟩:∃k,min 9 t.size=k:=⟨_,rfl⟩;have hk1:k≤t.size:=by omega
  have hk2:k≤9:=by omega
  have hk3:0<k:=by omega
  have hki:min 9 (t.size:Int)=(k:Int):=by omega
  clear hk;have HPT:Hid (∀i,i≤k→Z0e (t.data.toList.take i)<10 ^ i):=fun i hik=>by have h1:=Z4p _ (t.data.toList.take i) rfl (Z9y HI.o.dig i);rw[List.length_take,ba_len,Nat.min_eq_left (by omega)]at h1;exact h1
  go_wp2_with fail
  go_loop [5,6,16] (fun cv scv iv=>∃(i c sc:Nat),iv= .int .i64 (i:Int)∧i≤k∧cv= .int .u64 (c:Int)∧scv= .int .u64 (sc:Int)∧Hid (Z0e (t.data.toList.take i)=c)∧Hid (sc=10 ^ i)) (fun _ _ iv=>k - (intOf iv).toNat)
  case atStart=>exact⟨0,0,1,rfl,Nat.zero_le _,rfl,rfl,rfl,rfl⟩
  case round=>
   obtain⟨i,c,sc,rfl,hik,rfl,rfl,HC,HSC⟩:=hrel;by_cases hlt:i<k
   ·
    have hc8:c<100000000:=(by have h1:=HPT.o i hik;rw[HC.o]at h1;have h2:10 ^ i≤10 ^ 8:=Nat.pow_le_pow_right (by omega) (by omega);omega);have hs8:sc≤100000000:=(by have h2:10 ^ i≤10 ^ 8:=Nat.pow_le_pow_right (by omega) (by omega);have:=HSC.o;omega);have hit:i<t.size:=(by omega);obtain⟨g1,g2⟩:=ba_dig HI.o.dig i hit;have HV2:Hid (Z0e (t.data.toList.take (i+1))=10*c+(t[i].toNat - 48)):=(by show _=_;rw[ba_take t i hit,Z1q,HC.o,Nat.mul_comm]);have HS2:Hid (10*sc=10 ^ (i+1)):=(by show _=_;rw[HSC.o,Nat.pow_succ,Nat.mul_comm]);obtain⟨b,hb⟩:∃b,t[i].toNat=b:=⟨_,rfl⟩;rw[hb]at g1 g2 HV2;have g1z:(48:Int)≤(b:Int):=(by omega);have g2z:(b:Int)≤57:=by omega
    go_wp2
    go_round
    case rel=>exact⟨i+1,10*c+(b - 48),10*sc,by go_num,by omega,by congr 1;omega,by congr 1,HV2.o,HS2.o⟩
    case measure=>simp[intOf];omega
   have hie:i=k:=(by omega);subst hie;have hc9:c<1000000000:=(by have h1:=HPT.o i hik;rw[HC.o]at h1;have h2:=Zdk i hk2;omega);have hs9:sc≤1000000000:=(by rw[HSC.o];exact Zdk i hk2);have hs0:0<sc:=(by rw[HSC.o];exact Nat.pow_pos (by omega));have HGR:Hid ((val W32 l*sc+c)*10 ^ (t.extract i t.size).size+Z0e (t.extract i t.size).data.toList=V∧(t.extract i t.size).data.toList.all isD=true∧(t.extract i t.size).size=t.size - i):=(by have:=HI.o.group i hk1;rw[HC.o,←HSC.o]at this;exact this);have HS0:Hid (ScI w wo (.slice A l.length cap) l l sc c 0 c):=ScI.start HI.o sc c (by show c<4294967296;omega);clear HPT hik HC HSC;have hkz:(i:Int)≤(t.size:Int):=(by omega);have HTS:Hid ((t.extract i t.size).size≤S∧(t.extract i t.size).size<t.size):=⟨by rw[HGR.o.2.2];omega,by rw[HGR.o.2.2];omega⟩;have HLV:Hid (∀l2:List Nat,Nm W32 l2→val W32 l2=val W32 l*sc+c→l2.length≤S):=fun l2 h1 h2=>(by refine Nm.len_le (B:=W32) (by decide) h1 ?_;refine Nat.lt_of_le_of_lt ?_ HLB.o;rw[h2,←HGR.o.1];exact Nat.le_trans (Nat.le_mul_of_pos_right _ (Nat.pow_pos (by omega))) (Nat.le_add_right _ _));go_wp2_with fail;generalize t.extract i t.size=t2 at*
   go_loopw [5,35] (fun cv iv wr=>∃(j c2:Nat) (o:List Nat),iv= .int .i64 (j:Int)∧j≤l.length∧cv= .int .u64 (c2:Int)∧c2<4294967296∧Hid (ScI w wr (.slice A l.length cap) l o sc c j c2)) (fun _ iv _=>l.length - (intOf iv).toNat)
   case atStart=>exact⟨0,c,l,rfl,Nat.zero_le _,rfl,by omega,HS0.o⟩
   case round=>
    clear HS0;obtain⟨j,c2,o,rfl,hj,rfl,hc2,HJ⟩:=hrel;by_cases hjl:j<l.length
    ·
     obtain⟨g,cap2,e1,hg1,hg2,hf,hcs⟩:=Zdj HJ.o.own (by omega);injection e1 with e1 e2 e3;subst e1 e3;have f1:=hf j;have d1:=hcs j _ (Z6a o j (by rw[HJ.o.len];exact hjl));have HGD:=Za HJ.o.getD;have x1:=HJ.o.ds.getD (by decide) j;have HSTP:Hid (∀x:Nat,x=c2+sc*o.getD j 0→x / W32<W32→ScI w (wr.setCell ⟨g,j,none⟩ (.int .u32 ((x % W32:Nat):Int))) (.slice (some ⟨g,0,none⟩) l.length cap) l (o.set j (x % W32)) sc c (j+1) (x / W32)):=fun x hx hq=>HJ.o.step rfl hg1 hjl x (by rw[←HGD.o];exact hx) hq;have hw:W32=4294967296:=rfl;rw[hw]at x1;have HW:=Za hw;clear hf hcs HJ HGD hw;generalize o.getD j 0=y at*;obtain⟨hm1,hm2⟩:=Z6c (B:=4294967296) (o:=0) (show sc<4294967296 by omega) x1 hc2 (by omega);obtain⟨sy,hsy⟩:∃sy:Nat,sy=sc*y:=⟨_,rfl⟩;rw[←hsy]at HSTP hm1 hm2;rw[Nat.add_zero]at hm1 hm2;have hqb:sy<18446744073709551616:=(by omega);have HQY:IntKind.u64.wrap ((sc:Int)*(y:Int))=(sy:Int):=(by rw[hsy,Int.natCast_mul];exact IntWalk.u64_in _ (by rw[←Int.natCast_mul,←hsy];omega));clear hsy;obtain⟨x,hx⟩:∃x:Nat,x=c2+sy:=⟨_,rfl⟩;rw[←hx]at hm1 hm2;have HSS:Hid ((c2:Int)+(sy:Int)=(x:Int)):=(by show _=_;omega);have HJ2:=Za (HSTP.o x hx (by rw[HW.o];exact hm2));have hx1:c2+sy<18446744073709551616:=(by omega);have HM2:Hid (x / W32<4294967296):=(by rw[HW.o];exact hm2);clear HSTP hx hm1 hm2
     go_wp2
     rw[HSS.o,Z9a,Z9b];go_roundw
     case rel=>exact⟨j+1,x / W32,_,by go_num,by omega,rfl,HM2.o,HJ2.o⟩
     case measure=>simp[intOf];omega
    have hje:j=l.length:=(by omega);by_cases hc0:c2=0
    ·
     subst hc0;have HE:Hid (Nm W32 o∧val W32 o=val W32 l*sc+c):=(by have:=HJ.o;rw[hje]at this;exact this.end0 HI.o.nm hs0);have HOL:=Za HJ.o.len;have HI2:Hid (TxI w wr (.slice A l.length cap) o t2 V):=⟨by rw[HOL.o];exact HJ.o.own,HE.o.1,HGR.o.2.1,by rw[HE.o.2];exact HGR.o.1,HJ.o.bel⟩;clear HJ;go_wp2_with fail;go_roundw
     case rel=>exact⟨t2,o,A,cap,rfl,HTS.o.1,by rw[HOL.o],by rw[HOL.o];exact hlS,by show TxI _ _ _ _ _ _;rw[HOL.o];exact HI2.o⟩
     case measure=>exact HTS.o.2
    ·
     have hcp:0<c2:=(by omega);have hcz:(0:Int)<(c2:Int):=(by omega);have HE:Hid (Nm W32 (o++ [c2])∧val W32 (o++ [c2])=val W32 l*sc+c):=(by have:=HJ.o;rw[hje]at this;exact this.end1 hcp);have hsz:w.heap.size≤wr.heap.size:=HJ.o.bel.size;have HOA:Hid ((wr.alloc (.cells #[.int .u32 (c2:Int)] 177)).ownsRow w.heap.size 177 1 (.slice A l.length cap) l.length (uc o)):=HJ.o.own.alloc _;go_wp2_with (at_builtin;refine wpList_append_own _ rfl _ _ 112 rfl w.heap.size 177 i0 _ 1 4 Tryz.underlying112 HII.o.1 HII.o.2.1 HII.o.2.2.1 HII.o.2.2.2 rfl (by decide) _ _ _ rfl HOA.o ⟨wr.heap.size,0,none⟩ 1 1 [.int .u32 (c2:Int)] (by rfl) (by rfl) (World.news_of_block (cs:= #[.int .u32 (c2:Int)]) (t:=177) (fr:=(0,0)) (heap_alloc_new wr _)) (by simp[Value.oneCell']) (by unfold maxLen;omega) (by omega) (by simp;omega) ?_;intro v1 w5 hown2 hgrow2 _);have HOL:=Za HJ.o.len;have HB5:Hid (Below w.heap.size w w5):=(HJ.o.bel.alloc hsz _).grown hgrow2 (by simp;omega) (fun g hg=>(HJ.o.own.lt g hg).1);obtain⟨A1,cap1,hv1⟩:=Z08 hown2;have HO5:Hid (w5.ownsRow w.heap.size 177 1 (.slice A1 (o++ [c2]).length cap1) (o++ [c2]).length (uc (o++ [c2]))):=(by show World.ownsRow _ _ _ _ _ _ _;rw[Zco,Zj,HOL.o,←show v1=Value.slice A1 (l.length+ [c2].length) cap1 from hv1];exact hown2);go_roundw
     case rel=>exact⟨t2,o++ [c2],A1,cap1,rfl,HTS.o.1,by rw[hv1,Zj,HOL.o];rfl,HLV.o _ HE.o.1 HE.o.2,HO5.o,HE.o.1,HGR.o.2.1,by rw[HE.o.2];exact HGR.o.1,HB5.o⟩
     case measure=>exact HTS.o.2
end Go.Proofs.YtcemlhbfemenpaaGreatDoor
