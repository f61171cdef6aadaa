/- Several texts laid into one: The contract of (num.Nat).text; Generated (gen/rato.py): the contracts of (num.Rat).Ratio and edit.written; -/
import Derived.Test.YtcemlhbfemenpaaGreatDoorFacH
import Derived.Test.YtcemlhbfemenpaaGreatDoorRatX
set_option maxHeartbeats 16000000
set_option maxRecDepth 100000
namespace Go.Proofs.YtcemlhbfemenpaaGreatDoor
open Go.RowKit Go.Dw
theorem infoU8:(Tryz.prog.info? 5).map (fun i=>(i.zero,i.size,i.bytes))=some (some (.int .u8 0),1,1):=by kernel_rfl
theorem Z09.grown {w w':World}{row:Option Nat}(hg:w.grownBy w' row){v:Value}{n:Nat}(hv:Z09 w v n)(hne:0<n→∀b,v.ownBlock=some b→row≠some b):Z09 w' v n:=by
 obtain⟨A,c,l,rfl,hr,hn,hvl⟩:=hv;refine⟨A,c,l,rfl, ?_,hn,hvl⟩;by_cases hl:l= []
 · exact .inl (by rw[hl];rfl)
 have hp:0<n:=by rw[←hvl];exact hn.pos (by decide) (List.length_pos_iff.2 hl)
 rcases hr with hr|⟨b,off,rfl,hlt,hcl⟩
 · exact .inl hr
 · refine .inr ⟨b,off,rfl,by have:=hg.size;omega,fun j u hu=> ?_⟩;have e:=hg.block b hlt (fun e=>hne hp b rfl e.symm);rw[←hcl j u hu];exact World.cell?_of_block e
theorem natV_lt {w:World}{v:Value}{n:Nat}(hv:Z09 w v n)(hp:0<n):∀b,v.ownBlock=some b→b<w.heap.size:=by
 obtain⟨A,c,l,rfl,hr,hn,hvl⟩:=hv;intro b hb;rcases hr with hr|⟨b',off,rfl,hlt,hcl⟩
 · exfalso;have:l= []:=(by simpa [uc]using hr);rw[this]at hvl;simp[val]at hvl;omega
 · injection hb with hb;rw[←hb];exact hlt
structure NtI (w wr:World)(V q:Nat)(v0 v3:Value)(A:Option Addr)(c:Nat)(D:List Nat):Prop where
 sl:v3= .slice A D.length c
 nat:Z09 wr v0 q
 ds:Ds 10 D
 eq:val 10 D+10 ^ D.length*q=V
 nm:q=0→Nm 10 D
 own:wr.ownsRow w.heap.size 5 1 (.slice A D.length c) D.length (bc (db D))
 bel:Below w.heap.size w wr
 len:D.length≤20000000
structure NtJ (w wr:World)(V q:Nat)(v0:Value)(A:Option Addr)(c:Nat)(D:List Nat)(k n:Nat):Prop where
 nat:Z09 wr v0 q
 ne:0<q→∀b,v0.ownBlock=some b→(Value.slice A D.length c).ownBlock≠some b
 ds:Ds 10 D
 kl:k≤9
 eq:val 10 D+10 ^ D.length*(n+10 ^ (9 - k)*q)=V
 lt:n<10 ^ (9 - k)
 nm:q=0→n=0→Nm 10 D
 own:wr.ownsRow w.heap.size 5 1 (.slice A D.length c) D.length (bc (db D))
 bel:Below w.heap.size w wr
theorem Zev {D:List Nat}{d:Nat}(h:Ds 10 D)(h0:0<d)(h1:d<10):Nm 10 (D++ [d]):=by
 refine Nm.mk' (h.app (by intro x hx;simp at hx;subst hx;exact h1)) fun hl=> ?_;simp;exact h0
theorem len10 {D:List Nat}{t V K:Nat}(h:val 10 D+10 ^ D.length*t=V)(ht:0<t)(hV:V<W32 ^ K):D.length<10*K:=by
 have h1:10 ^ D.length≤V:=by have:=Nat.mul_le_mul_left (10 ^ D.length) ht;omega
 have h2:W32 ^ K≤10 ^ (10*K):=by rw[Nat.pow_mul];exact Nat.pow_le_pow_left (by decide) K
 have h3:10 ^ D.length<10 ^ (10*K):=by omega
 exact(Nat.pow_lt_pow_iff_right (by omega)).1 h3
structure RowB (w wr:World)(g:Nat)(l:List UInt8):Prop where
 cell:∀j,j<l.length→wr.cell? ⟨g,j,none⟩=some (.int .u8 ((l.getD j 0).toNat:Int))∧wr.frozen? ⟨g,j,none⟩=false
 bel:Below w.heap.size w wr
 le:w.heap.size≤g
theorem RowB.set {w wr:World}{g:Nat}{l:List UInt8}(h:RowB w wr g l){i:Nat}(hi:i<l.length)(b:UInt8):RowB w (wr.setCell ⟨g,i,none⟩ (.int .u8 (b.toNat:Int))) g (l.set i b):=by
 refine⟨fun j hj=> ?_,h.bel.setCell (p:=⟨g,i,none⟩) h.le _,h.le⟩;rw[List.length_set]at hj;obtain⟨h1,h2⟩:=h.cell j hj;by_cases e:j=i
 ·
  subst e;refine⟨?_, ?_⟩
  · rw[World.cell?_setCell_same _ _ _ h1,Zg,List.getElem?_set_self hj];rfl
  · rw[World.frozen?_setCell];exact h2
 ·
  refine⟨?_, ?_⟩
  · rw[World.cell?_setCell_other _ _ _ _ (by simp;try exact fun h=>e h.symm),Zg,List.getElem?_set_ne (Ne.symm e),←Zg];exact h1
  · rw[World.frozen?_setCell];exact h2
theorem RowB.drew {w wr:World}{g:Nat}{l:List UInt8}(h:RowB w wr g l):RowB w wr.drew g l:=⟨h.cell,h.bel.drew,h.le⟩
theorem RowB.of_own {w wr:World}{base:Nat}{A:Option Addr}{c:Nat}{l:List UInt8}(h:wr.ownsRow base 5 1 (.slice A l.length c) l.length (bc l))(hb:Below w.heap.size w wr)(hw:w.heap.size≤base)(hn:0<l.length):
  ∃g,A=some ⟨g,0,none⟩∧RowB w wr g l∧l.length≤c∧c≤9223372036854775807:=by
 rcases h.2 with⟨_,h0⟩|⟨g,cap,cur,hv,hg,hk,h4,h5,h6,h7⟩
 · omega
 · injection hv with e1 e2 e3;subst e1 e3;refine⟨g,rfl,⟨fun j hj=> ?_,hb,by omega⟩,h4,by unfold maxLen at h5;omega⟩;have hc:wr.cell? ⟨g,j,none⟩=cur[j]? :=(by simp[World.cell?,hk]);have hf:wr.frozen? ⟨g,j,none⟩=false:=(by simp[World.frozen?,hk]);refine⟨?_,hf⟩;rw[hc];have h8:(cur.toList.take (l.length*1))[j]? =(bc l)[j]? :=(by rw[h7]);rw[Nat.mul_one,List.getElem?_take_of_lt hj,Array.getElem?_toList]at h8;rw[h8,bc,List.getElem?_map,Zg,Zi hj];rfl
theorem Z8n (va:Value)(V:Nat)(w:World)(h:Z09 w va V)(K:Nat)(hK:Lim K V)(hK2:K≤1000000):
  Calls Tryz.prog 155 #[va] w fun e w'=>e= .returned (.string ⟨(Lib.decDigits V).toArray⟩)∧Below w.heap.size w w':=by
 have HL:=Za hK;have HN:=Za h;obtain⟨ii,hii,hzi0,hzi1,hzi2⟩:=info_parts infoU8;obtain⟨A,L,c,rfl,hlz⟩:∃A L c,va= .slice A L c∧(L=0↔V=0):=by obtain⟨A,c,l,rfl,_,hn,hv⟩:=h;refine⟨A,l.length,c,rfl, ?_⟩;rw[←hv,hn.zero_iff (by decide)];exact⟨fun e=>Zk e,fun e=>by rw[e];rfl⟩
 clear h hK;by_cases h0:V=0
 · have:L=0:=hlz.2 h0;subst this;have e:Lib.decDigits V= [48]:=(by rw[h0,Lib.decDigits,dif_pos (by omega)];rfl);rw[e];clear h0 hlz e;go_enter Tryz.func155,Tryz.ntmps155;go_wp2_with fail;go_ret;exact⟨rfl,Zm _ _⟩
 have hL0:0<L:=by
  rcases Nat.eq_zero_or_pos L with e|e
  · exact absurd (hlz.1 e) h0
  · exact e
 have hz:((L:Int)==0)=false:=by rw[beq_eq_false_iff_ne];omega
 have HV0:Hid (0<V):=Nat.pos_of_ne_zero h0;obtain⟨T,hT⟩:∃T,Lib.decDigits V=T:=⟨_,rfl⟩;rw[hT];have HT:=Za hT;clear h0 hlz hT;go_enter Tryz.func155,Tryz.ntmps155;go_wp2_with fail
 go_loopg [0,3] V (fun q v0 v3 wr=>∃(A1:Option Addr) (c1:Nat) (D:List Nat),Hid (NtI w wr V q v0 v3 A1 c1 D)∧Hid (q≤V))
 case atStart=>exact⟨none,0,[],⟨rfl,HN.o,Ds.nil,by simp[val],fun _=>Nm.nil,World.ownsRow_nil _ _ _ _,Zm _ _,by simp⟩,Zh _⟩
 case round=>
  obtain⟨A1,c1,D,HI,HQV⟩:=hrel;obtain⟨q,hq⟩:∃q,q=gk:=⟨_,rfl⟩;subst hq;obtain⟨A0,L0,c0,e0⟩:=Z01 HI.o.nat;have e3:=HI.o.sl;subst e0;subst e3;have hLq:L0=0↔q=0:=by obtain⟨A',c',l,e,_,hn,hv⟩:=HI.o.nat;injection e with e1 e2 e3;rw[e2,←hv,hn.zero_iff (by decide)];exact⟨fun e=>Zk e,fun e=>by rw[e];rfl⟩
  obtain⟨wo,hwo⟩:∃wo,wo=wr:=⟨_,rfl⟩;subst hwo;have hDl:D.length≤20000000:=HI.o.len;by_cases hq0:q=0
  ·
   have hL:L0=0:=hLq.2 hq0;subst hL;have HDN:Hid (Nm 10 D∧val 10 D=V):=⟨HI.o.nm hq0,by have:=HI.o.eq;rw[hq0,Nat.mul_zero,Nat.add_zero]at this;exact this⟩
   have hDp:0<D.length:=by
    rcases Nat.eq_zero_or_pos D.length with e|e
    · have h1:=HDN.o.2;rw[Zk e]at h1;have:=HV0.o;simp[val]at h1;omega
    · exact e
   have hown:=HI.o.own;rw[←Z6e D]at hown;obtain⟨g,hA1,hrow,hc1,hc2⟩:=RowB.of_own hown HI.o.bel (Zh _) (by rw[Z6e];exact hDp);subst hA1;have HRW:=Za hrow;obtain⟨l,hl⟩:∃l,db D=l:=⟨_,rfl⟩;have HTX:Hid (T=l.reverse):=(by show _=_;rw[←HT.o,←hl,←HDN.o.2];exact(db_dec HDN.o.1 (by rw[HDN.o.2];exact HV0.o)).symm);have hll:l.length=D.length:=(by rw[←hl,Z6e]);rw[hl]at HRW hc1;rw[←hll]at hDp hDl⊢;clear hown hrow hq0 hLq HI HQV HDN hl hll;have hw0:IntKind.i64.wrap ((l.length:Int) - 1)=(l.length:Int) - 1:=IntWalk.i64_in _ (by omega);go_wp2_with fail
   go_loopw [9,10] (fun iv jv wr=>∃k j:Nat,k+j+1=l.length∧k≤j+1∧iv= .int .i64 (k:Int)∧jv= .int .i64 (j:Int)∧Hid (RowB w wr g (Z97 l k))) (fun iv _ _=>l.length - (intOf iv).toNat)
   case atStart=>exact⟨0,l.length - 1,by omega,by omega,rfl,by rw[show((l.length - 1:Nat):Int)=(l.length:Int) - 1 by omega],by rw[Zcy];exact HRW.o⟩
   case round=>
    obtain⟨k,j,hkj,hk1,rfl,rfl,HR⟩:=hrel;by_cases hlt:k<j
    ·
     have hd:decide (k<j)=true:=(by simpa using hlt);have hkl:k<l.length:=(by omega);have hjl:j<l.length:=(by omega);have hrl:=Z43 l k (by omega);have ek:(Z97 l k).getD k 0=l[k]:=(by rw[Zg,Z5p l k k (by omega) hkl,if_neg (by omega),Zi hkl];rfl);have ej:(Z97 l k).getD j 0=l[j]:=(by rw[Zg,Z5p l k j (by omega) hjl,if_neg (by omega),Zi hjl];rfl);obtain⟨d1,f1⟩:=HR.o.cell k (by rw[hrl];exact hkl);obtain⟨d2,f2⟩:=HR.o.cell j (by rw[hrl];exact hjl);rw[ek]at d1;rw[ej]at d2;have est:=Zcz l k (by omega) l[k] l[j] (Zi hkl) (by rw[show l.length - 1 - k=j by omega];exact Zi hjl);rw[show l.length - 1 - k=j by omega]at est;have hne:k≠j:=(by omega);have hne2:j≠k:=(by omega);have HA:Hid (RowB w ((wr.setCell ⟨g,k,none⟩ (.int .u8 (l[j].toNat:Int))).setCell ⟨g,j,none⟩ (.int .u8 (l[k].toNat:Int))) g (Z97 l (k+1))):=(by show RowB _ _ _ _;rw[←est];exact(HR.o.set (by rw[hrl];exact hkl) _).set (by rw[List.length_set,hrl];exact hjl) _);have HB:Hid (RowB w ((wr.setCell ⟨g,j,none⟩ (.int .u8 (l[k].toNat:Int))).setCell ⟨g,k,none⟩ (.int .u8 (l[j].toNat:Int))) g (Z97 l (k+1))):=(by show RowB _ _ _ _;rw[←est,List.set_comm _ _ hne];exact(HR.o.set (by rw[hrl];exact hjl) _).set (by rw[List.length_set,hrl];exact hkl) _);have hw1:IntKind.i64.wrap ((k:Int)+1)=(k:Int)+1:=IntWalk.i64_in _ (by omega);have hw2:IntKind.i64.wrap ((j:Int) - 1)=((j - 1:Nat):Int):=(by rw[show(j:Int) - 1=((j - 1:Nat):Int) by omega];exact IntWalk.i64_in _ (by omega));have b0:(0:Int)≤(k:Int):=(by omega);have b1:(k:Int)<(l.length:Int):=(by omega);have b2:(0:Int)≤(j:Int):=(by omega);have b3:(j:Int)<(l.length:Int):=(by omega);clear HR ek ej est hrl;generalize l[k]=x at*;generalize l[j]=y at*;go_wp2_with fail
     go_region
     all_goals
      go_wp2_with fail;go_roundw
      case rel=>exact⟨k+1,j - 1,by omega,by omega,by go_num,rfl,by first|exact HA.o.drew|exact HB.o.drew⟩
      case measure=>simp[intOf];omega
    ·
     have hd:decide (k<j)=false:=(by simpa using hlt);have HRV:Hid (Z97 l k=l.reverse):=Zd0 l k (by omega) (by omega);have HR2:Hid (RowB w wr g l.reverse):=by rw[←HRV.o];exact HR.o
     have hcv:(convert 101 9 (.slice (some ⟨g,0,none⟩) l.length c1)).run Tryz.prog wr= .ok (.string ⟨l.reverse.toArray⟩) wr:=by
      have h:=run_convert_bytes_back (P:=Tryz.prog) wr 101 9 5 ⟨g,0,none⟩ c1 l.reverse Tryz.underlying101 Tryz.underlying5 Tryz.underlying9 (fun m hm=>by
       have:=(HR2.o.cell m hm).1;rw[Zg,Zi hm]at this;rw[Lib.add_plain,Nat.zero_add]
       exact this)
      rw[List.length_reverse]at h;exact h
     have HB:=Za HR2.o.bel;rw[←HTX.o]at hcv;clear HR HR2 HRV HTX;go_wp2_with fail;go_ret;exact⟨rfl,HB.o⟩
  ·
   have hLp:0<L0:=by
    rcases Nat.eq_zero_or_pos L0 with e|e
    · exact absurd (hLq.1 e) hq0
    · exact e
   have hd:decide ((0:Int)<(L0:Int))=true:=decide_eq_true (by omega);have hqp:0<q:=Nat.pos_of_ne_zero hq0;have HDW:=Za (Z4z (.slice A0 L0 c0) q 1000000000 wo HI.o.nat K (HL.o.le HQV.o) (by omega) (by omega) (by omega));go_wp2_with fail;refine HDW.o.mono ?_;rintro e w2 ⟨v1,v2,rfl,hv1,hv2,hb2,hf2⟩;obtain⟨B1,M1,e1,rfl⟩:=Z01 hv1;have HV1:Hid (Z09 w2 (.slice B1 M1 e1) (q / 1000000000)∧(M1=0↔q / 1000000000=0)):=(by refine⟨hv1, ?_⟩;obtain⟨A',c',l,e,_,hn,hv⟩:=hv1;injection e with x1 x2 x3;rw[x2,←hv,hn.zero_iff (by decide)];exact⟨fun e=>Zk e,fun e=>by rw[e];rfl⟩);have hr10:q % 1000000000<1000000000:=Nat.mod_lt _ (by omega);have HSM:=Za (Z0z v2 (q % 1000000000) w2 hv2);rw[(Z3u (show q % 1000000000<18446744073709551616 by omega)).1,(Z3u (show q % 1000000000<18446744073709551616 by omega)).2]at HSM
   have HJ0:Hid (∀W,Qd w2 W→NtJ w W V (q / 1000000000) (.slice B1 M1 e1) A1 c1 D 0 (q % 1000000000)):=fun W hW=>by
    have hbw:=hW.below;have hsz:=hb2.size;refine⟨hv1.below hbw,fun _ b hb hne=> ?_,HI.o.ds,by omega, ?_,hr10,fun h1 h2=> ?_,Z04 (Z04 HI.o.own hb2) hbw,(HI.o.bel.trans (hb2.mono HI.o.bel.size)).trans (hbw.mono (Nat.le_trans HI.o.bel.size hsz))⟩
    · have h1:=hf2 b hb;have h2:=(HI.o.own.lt b hne).2;omega
    · have h1:=HI.o.eq;rw[←h1];congr 2;have:=Nat.mod_add_div q 1000000000;show q % 1000000000+1000000000*(q / 1000000000)=q;exact this
    · exfalso;have:=Nat.mod_add_div q 1000000000;rw[h1,h2]at this;omega
   have HQ2:Hid (q / 1000000000<q∧q / 1000000000≤V):=⟨Nat.div_lt_self hqp (by omega),Nat.le_trans (Nat.div_le_self _ _) HQV.o⟩;obtain⟨t,ht⟩:∃t,q / 1000000000=t:=⟨_,rfl⟩;obtain⟨r,hr⟩:∃r,q % 1000000000=r:=⟨_,rfl⟩;rw[ht]at HV1 HJ0 HQ2;rw[hr]at HSM HJ0 hr10;clear hv1 hv2 hb2 hf2 hLq hq0 hqp HDW ht hr HI;go_wp2_with fail;refine HSM.o.mono ?_;rintro e w3 ⟨rfl,hq3⟩;have HJ1:=Za (HJ0.o w3 hq3);clear hq3 HSM HJ0;go_wp2_with fail
   go_loopw [3,6,8] (fun ov nv kv wr=>∃(k n:Nat) (D2:List Nat) (A2:Option Addr) (c2:Nat),ov= .slice A2 D2.length c2∧nv= .int .u64 (n:Int)∧kv= .int .i64 (k:Int)∧n<1000000000∧k≤9∧Hid (NtJ w wr V t (.slice B1 M1 e1) A2 c2 D2 k n)) (fun _ _ kv _=>9 - (intOf kv).toNat)
   case atStart=>exact⟨0,r,D,A1,c1,rfl,rfl,rfl,hr10,by omega,HJ1.o⟩
   case round=>
    clear HJ1;obtain⟨k,n,D2,A2,c2,rfl,rfl,rfl,hn9,hk9,HJ⟩:=hrel;by_cases hgo:k<9∧(0<M1∨0<n)
    ·
     have hk:k<9:=hgo.1
     have hnt:0<n+10 ^ (9 - k)*t:=by
      rcases hgo.2 with h1|h1
      · have:0<t:=Nat.pos_of_ne_zero fun e=>(by have:=HV1.o.2.2 e;omega);have:=Nat.mul_pos (Nat.pow_pos (n:=9 - k) (show 0<10 by omega)) this;omega
      · omega
     have hDl2:D2.length<10*K:=len10 HJ.o.eq hnt HL.o;have hdig:n % 10<10:=Nat.mod_lt _ (by omega);obtain⟨dd,hdd⟩:∃dd,n % 10=dd:=⟨_,rfl⟩;obtain⟨nq,hnq⟩:∃nq,n / 10=nq:=⟨_,rfl⟩
     have HNX:Hid (∀(g8 cap8:Nat) (w8:World) (ob:Obj),w8.ownsRow w.heap.size 5 1 (.slice (some ⟨g8,0,none⟩) (D2.length+1) cap8) (D2.length+1) (bc (db D2)++ [.int .u8 (48+(n:Int) % 10)])→(wr.alloc ob).grownBy w8 (Value.slice A2 D2.length c2).ownBlock→((Value.slice A2 D2.length c2).ownBlock=some g8∨g8=wr.heap.size+1)→
       NtJ w w8 V t (.slice B1 M1 e1) (some ⟨g8,0,none⟩) cap8 (D2++ [dd]) (k+1) nq):=fun g8 cap8 w8 ob h1 h2 h3=>by
      have hsz:=HJ.o.bel.size;have e1:bc (db D2)++ [.int .u8 (48+(n:Int) % 10)]=bc (db (D2++ [dd])):=(by rw[show(n:Int) % 10=(dd:Int) by omega];rw[db_snoc,Zcn];congr 1;have:=Z7s (k:=dd) (by omega);simp only[bc,List.map_cons,List.map_nil,this];congr 2);rw[e1]at h1;refine⟨Z09.grown h2 (HJ.o.nat.below ((Zm _ _).alloc (Zh _) _)) (fun hp b hb=>HJ.o.ne hp b hb),fun hp b hb hne=> ?_,HJ.o.ds.app (by intro x hx;simp at hx;omega),by omega, ?_, ?_,fun e1 e2=> ?_, ?_, ?_⟩
      ·
       have hne':g8=b:=(by simpa [Value.ownBlock]using hne);rcases h3 with h3|h3
       · exact HJ.o.ne hp b hb (by rw[h3,hne'])
       · have:=natV_lt HJ.o.nat hp b hb;omega
      · have:=txt_step hk HJ.o.eq;rw[hdd,hnq]at this;exact this
      · have:=txt_lt hk HJ.o.lt;rw[hnq]at this;exact this
      ·
       refine Zev HJ.o.ds ?_ (by omega);rcases hgo.2 with q1|q1
       · have:=HV1.o.2.2 e1;omega
       · omega
      · rw[Zj];exact h1
      · exact Below.grown (HJ.o.bel.alloc hsz ob) h2 (by simp;omega) (fun b hb=>(HJ.o.own.lt b hb).1)
     have HO:=Za HJ.o.own;have hsz:=HJ.o.bel.size;have hm3:(n:Int) / 10=(nq:Int):=(by omega);have hq1:IntKind.u64.wrap ((n:Int) % 10)=(n:Int) % 10:=IntWalk.u64_in _ (by omega);have hq2:IntKind.u64.wrap (48+(n:Int) % 10)=48+(n:Int) % 10:=IntWalk.u64_in _ (by omega);have hq3:IntKind.u8.wrap (48+(n:Int) % 10)=48+(n:Int) % 10:=IntWalk.u8_in _ (by omega);have hq4:IntKind.u64.wrap (nq:Int)=(nq:Int):=IntWalk.u64_in _ (by omega);have hq5:IntKind.i64.wrap ((k:Int)+1)=(k:Int)+1:=IntWalk.i64_in _ (by omega);have hk1:decide ((k:Int)<9)=true:=decide_eq_true (by omega);have hk2:decide (k<9)=true:=decide_eq_true hk;have hnq9:nq<1000000000:=(by omega);have hk10:k+1≤9:=(by omega);have hDl3:D2.length+1≤10000000:=by omega
     have hcs:(decide ((0:Int)<(M1:Int))=true∧decide (0<M1)=true)∨((decide ((0:Int)<(M1:Int))=false∧decide (0<M1)=false)∧decide ((0:Int)<(n:Int))=true∧decide (0<n)=true):=by
      by_cases q1:0<M1
      · exact .inl ⟨decide_eq_true (by omega),decide_eq_true q1⟩
      · have q2:0<n:=(by rcases hgo.2 with h|h<;>omega);exact .inr ⟨⟨decide_eq_false (by omega),decide_eq_false q1⟩,decide_eq_true (by omega),decide_eq_true q2⟩
     clear hdd hnq hnt HJ hgo hdig hk hDl2;rcases hcs with⟨c1,c2'⟩|⟨⟨c1,c2'⟩,c3,c4⟩
     all_goals
      go_wp2_with (at_builtin;refine wpList_append_lies _ rfl _ _ 101 rfl w.heap.size 5 ii _ 1 1 Tryz.underlying101 hii hzi0 hzi1 hzi2 rfl (by decide) _ _ _ rfl (World.ownsRow.alloc HO.o _) ⟨wr.heap.size,0,none⟩ 1 1 [.int .u8 (48+(n:Int) % 10)] (by rfl) (by rfl) (World.news_of_block (cs:= #[.int .u8 (48+(n:Int) % 10)]) (t:=5) (fr:=(0,0)) (heap_alloc_new wr _)) (by simp[Value.oneCell']) (by decide) (by unfold maxLen;omega) (by omega) (by simp;omega) (wr.heap.size+1) (by simp) ?_;intro g8 cap8 w8 hown8 hgrow8 hat8 hlt8;have HF8:=Za (HNX.o _ _ _ _ hown8 hgrow8 hat8);clear hown8 hgrow8 hat8 hlt8);go_roundw
      case rel=>exact⟨k+1,nq,D2++ [dd],_,_,by rw[Zj];rfl,rfl,by go_num,hnq9,by omega,HF8⟩
      case measure=>simp[intOf];omega
    ·
     have HEN:Hid (val 10 D2+10 ^ D2.length*t=V∧n=0):=by
      have h1:=HJ.o.eq;have h2:=HJ.o.lt;by_cases hk:k<9
      · have hn0:n=0:=(by omega);have hm0:M1=0:=(by omega);have ht0:=HV1.o.2.1 hm0;rw[hn0,ht0,Nat.mul_zero,Nat.zero_add]at h1;rw[ht0];exact⟨h1,hn0⟩
      · have hk':k=9:=(by omega);rw[hk',Nat.sub_self,Nat.pow_zero]at h1 h2;have hn0:n=0:=(by omega);rw[hn0,Nat.zero_add,Nat.one_mul]at h1;exact⟨h1,hn0⟩
     have HFI:Hid (NtI w wr V t (.slice B1 M1 e1) (.slice A2 D2.length c2) A2 c2 D2):=by
      refine⟨rfl,HJ.o.nat,HJ.o.ds,HEN.o.1,fun h=>HJ.o.nm h HEN.o.2,HJ.o.own,HJ.o.bel, ?_⟩;by_cases ht:0<t
      · have:=len10 HEN.o.1 ht HL.o;omega
      · have h1:=HJ.o.nm (by omega) HEN.o.2;have h2:=HEN.o.1;rw[show t=0 by omega,Nat.mul_zero,Nat.add_zero]at h2;have h3:val 10 D2<10 ^ (10*K):=(by rw[h2];exact Nat.lt_of_lt_of_le HL.o (by rw[Nat.pow_mul];exact Nat.pow_le_pow_left (by decide) K));have:=h1.len_le (by decide) h3;omega
     have hcs:(decide ((k:Int)<9)=false∧decide (k<9)=false)∨((decide ((k:Int)<9)=true∧decide (k<9)=true)∧(decide ((0:Int)<(M1:Int))=false∧decide (0<M1)=false)∧decide ((0:Int)<(n:Int))=false∧decide (0<n)=false):=by
      by_cases hk:k<9
      · exact .inr ⟨⟨decide_eq_true (by omega),decide_eq_true hk⟩,⟨decide_eq_false (by omega),decide_eq_false (by omega)⟩,decide_eq_false (by omega),decide_eq_false (by omega)⟩
      · exact .inl ⟨decide_eq_false (by omega),decide_eq_false hk⟩
     clear HJ hgo HEN;rcases hcs with⟨c1,c2'⟩|⟨⟨c1,c2'⟩,⟨c3,c4⟩,c5,c6⟩
     all_goals
      go_wp2_with fail
      go_roundg t
      case measure=>exact HQ2.o.1
      case rel=>exact⟨A2,c2,D2,HFI,HQ2.o.2⟩
end Go.Proofs.YtcemlhbfemenpaaGreatDoor
namespace Go.Proofs.YtcemlhbfemenpaaGreatDoor
open Go.RowKit Go.Dw
open Go.Dwo (fcL fcN fcK fcZ fcG fcE fcD fcV fcC fcP Z00)
attribute [local go_sem ↓] Go.wp_at_zero Go.wp_at_succ
attribute [local go_sem] Go.Dwo.Oper.tame Go.Dwo.actOf List.getD_cons_zero List.getD_cons_succ
def Zew (q:Rat):Value:= .agg #[.string ⟨(Z7r q).toArray⟩,.string ⟨(Zbl q).toArray⟩]
theorem Z3x {n k:Nat}(h:Lim k n):(Lib.decDigits n).length≤10*k+1:=by
 refine Z3s _ _ (by omega) (Nat.lt_of_lt_of_le h ?_);have e1:W32 ^ k≤(10 ^ 10) ^ k:=Nat.pow_le_pow_left (by decide) k;rw[←Nat.pow_mul]at e1;exact Nat.le_trans e1 (Nat.pow_le_pow_right (by omega) (by omega))
def rtoF (w1:World)(g:Nat)(s:Bool)(A:Option Addr)(L c:Nat)(B:Option Addr)(M d:Nat)(T U:ByteArray):List Go.Dwo.Fact:= [
 ⟨[],[],fun _ W=>Gq w1 W∧Blk W g 116 [.bool s,.slice A L c,.slice B M d]⟩,
 ⟨[0],[],fun vs _=>vs 0= .pointer (some ⟨g,0,none⟩)⟩,
 ⟨[1],[],fun vs _=>vs 1= .pointer (some ⟨g,1,none⟩)⟩,
 ⟨[2],[],fun vs _=>vs 2= .slice A L c⟩,
 ⟨[3],[],fun vs _=>vs 3= .string T⟩,
 ⟨[4],[],fun vs _=>vs 4= .pointer (some ⟨g,2,none⟩)⟩,
 ⟨[5],[],fun vs _=>vs 5= .slice B M d⟩,
 ⟨[6],[],fun vs _=>vs 6= .string U⟩,
 ⟨[7],[],fun vs _=>vs 7= .string T⟩,
 ⟨[8],[],fun vs _=>vs 8= .string U⟩]
theorem rtoK (w1:World)(g:Nat)(s:Bool)(A:Option Addr)(L c:Nat)(B:Option Addr)(M d:Nat)(T U:ByteArray):∀f∈rtoF w1 g s A L c B M d T U,∀vs w w',Gq w w'→f.says vs w→f.says vs w':=
 fcL (fun _ _ _ hg h=>⟨h.1.trans hg,Z0u h.2 hg⟩)<|fcL (fun _ _ _ _ h=>h)<|fcL (fun _ _ _ _ h=>h)<|fcL (fun _ _ _ _ h=>h)<|fcL (fun _ _ _ _ h=>h)<|fcL (fun _ _ _ _ h=>h)<|fcL (fun _ _ _ _ h=>h)<|fcL (fun _ _ _ _ h=>h)<|fcL (fun _ _ _ _ h=>h)<|fcL (fun _ _ _ _ h=>h)<|fcN _
theorem Zex (va:Value)(q:Rat)(most:Nat)(w:World)(h:Z10 w va q)(k:Nat)(hk:Z0i k q)(hk2:k≤1000000)(hm:10*k+1≤most):
  Calls Tryz.prog 119 #[va,.int .i64 (most:Int)] w fun e w'=>e= .returned (.tuple #[Zew q,.bool true])∧Below w.heap.size w w':=by
 obtain⟨x,y,rfl,hu,hx,_⟩:=h;obtain⟨s,hs⟩:∃s,decide (q.num<0)=s:=⟨_,rfl⟩;rw[hs];obtain⟨A,L,c,rfl⟩:=Z01 hu;obtain⟨B,M,d,rfl⟩:=Z01 hx;obtain⟨wa,hwa⟩:∃wa,wa=w.alloc (.cells #[.bool s,.slice A L c,.slice B M d] 116):=⟨_,rfl⟩;obtain⟨w1,hw1⟩:∃w1,w1=wa.alloc (.cells #[.string ⟨#[]⟩,.string ⟨#[]⟩] 59):=⟨_,rfl⟩;have z1:wa.heap.size=w.heap.size+1:=by rw[hwa];simp
 have ba:Gq w wa:=by rw[hwa];exact(Gq.refl _).alloc _
 have bc:Gq wa w1:=by rw[hw1];exact(Gq.refl _).alloc _
 have HB1:Hid (Gq w w1):=ba.trans bc;have HKA:Hid (Blk w1 w.heap.size 116 [.bool s,.slice A L c,.slice B M d]):=by refine Z0u (?_:Blk wa w.heap.size _ _) bc;rw[hwa];exact Blk.new w _ _
 have HKB:Hid (Blk w1 (w.heap.size+1) 59 [.string ⟨#[]⟩,.string ⟨#[]⟩]):=by rw[hw1,←z1];exact Blk.new wa _ _
 obtain⟨T,hT⟩:∃T:ByteArray,T=⟨(Lib.decDigits q.num.natAbs).toArray⟩:=⟨_,rfl⟩;obtain⟨U,hU⟩:∃U:ByteArray,U=⟨(Lib.decDigits q.den).toArray⟩:=⟨_,rfl⟩;have HTA:Hid (∀W,Gq w1 W→Calls Tryz.prog 155 #[.slice A L c] W fun e w'=>e= .returned (.string T)∧Gq W w'):=fun W hW=>by rw[hT];exact Z8n _ _ W ((hu.below HB1.o).below hW) k hk.1 hk2
 have HTB:Hid (∀W,Gq w1 W→Calls Tryz.prog 155 #[.slice B M d] W fun e w'=>e= .returned (.string U)∧Gq W w'):=fun W hW=>by rw[hU];exact Z8n _ _ W ((hx.below HB1.o).below hW) k hk.2 hk2
 have hsz:∀l:List UInt8,(⟨l.toArray⟩:ByteArray).size=l.length:=fun l=>by show l.toArray.size=_;simp
 have hTz:T.size≤most:=by rw[hT,hsz];exact Nat.le_trans (Z3x hk.1) hm
 have hUz:U.size≤most:=by rw[hU,hsz];exact Nat.le_trans (Z3x hk.2) hm
 have hTz2:T.size≤10000001:=by rw[hT,hsz];exact Nat.le_trans (Z3x hk.1) (by omega)
 have hd1:decide ((most:Int)<(T.size:Int))=false:=decide_eq_false (by omega);have hd2:decide (most<T.size)=false:=decide_eq_false (by omega);have hd3:decide ((most:Int)<(U.size:Int))=false:=decide_eq_false (by omega);have hd4:decide (most<U.size)=false:=decide_eq_false (by omega);obtain⟨Z,hZ⟩:∃Z:ByteArray,Z=⟨(Z7r q).toArray⟩:=⟨_,rfl⟩;have HT1:Hid (s=false→T=Z):=fun h1=>by rw[hZ];unfold Z7r;rw[if_neg (by rw[h1]at hs;exact of_decide_eq_false hs),hT];rfl
 have HT2:Hid (s=true→(⟨#[45]⟩:ByteArray)++T=Z):=fun h1=>by rw[hZ];unfold Z7r;rw[if_pos (by rw[h1]at hs;exact of_decide_eq_true hs),hT];apply Z1w;simp
 have hBT:U=⟨(Zbl q).toArray⟩:=hU;unfold Zew;rw[←hZ,←hBT];have HCE:Hid (∀W,Gq w1 W→W.cell? ⟨w.heap.size,0,none⟩=some (.bool s)∧W.cell? ⟨w.heap.size+1,0,none⟩=some (.string ⟨#[]⟩)∧W.cell? ⟨w.heap.size+1,1,none⟩=some (.string ⟨#[]⟩)∧W.frozen? ⟨w.heap.size+1,0,none⟩=false∧W.frozen? ⟨w.heap.size+1,1,none⟩=false):=fun W hW=>by have k1:=Z0u HKA.o hW;have k2:=Z0u HKB.o hW;exact⟨k1.cell 0,k2.cell 0,k2.cell 1,k2.frozen 0,k2.frozen 1⟩
 have HEND:Hid (∀W x y,Gq w1 W→(((W.setCell ⟨w.heap.size+1,0,none⟩ x).setCell ⟨w.heap.size+1,1,none⟩ y).cell? ⟨w.heap.size+1,0,none⟩=some x∧((W.setCell ⟨w.heap.size+1,0,none⟩ x).setCell ⟨w.heap.size+1,1,none⟩ y).cell? ⟨w.heap.size+1,1,none⟩=some y)∧Below w.heap.size w ((W.setCell ⟨w.heap.size+1,0,none⟩ x).setCell ⟨w.heap.size+1,1,none⟩ y)):=fun W x y hW=>by have k2:=((Z0u HKB.o hW).set_ 0 x).set_ 1 y;refine⟨⟨k2.cell 0,k2.cell 1⟩, ?_⟩;exact((HB1.o.trans hW).set (p:=⟨w.heap.size+1,0,none⟩) (by show w.heap.size≤w.heap.size+1;omega) x).set (p:=⟨w.heap.size+1,1,none⟩) (by show w.heap.size≤w.heap.size+1;omega) y
 rw[hwa]at hw1;have HW1:=Za hw1;obtain⟨w0,hw0⟩:∃w0,w0=w:=⟨_,rfl⟩;subst hw0;clear hw1 hwa hu hx hs ba bc z1 hT hU hk hm hTz hUz hsz hZ hBT;go_enter Tryz.func119,Tryz.ntmps119;go_upto_region 1 with(fail);rw[←HW1.o]
 go_cut [6,7] (fun v6 v7 wx=>v6= .string T∧v7= .string U∧Hid (Gq w1 wx))
 case first=>
  refine Z00 _ (by kernel_rfl) [[],[0],[0,1],[0,1,2],[],[4],[4,5],[0,1,2,3],[4,5,6]] (by kernel_rfl) (by kernel_rfl) [some 8,some 9,some 10,some 11,some 12,some 13,some 14,some 6,some 7] (by kernel_rfl) (fun vs=>by simp only[Go.Dwo.putA,Go.Dwo.putL,if_true,Act.put,Zb,Zc,Zd];rfl) (rtoF w1 w0.heap.size s A L c B M d T U) (by kernel_rfl) ?_ ⟨?_, ?_, ?_, ?_, ?_, ?_, ?_, ?_, ?_,trivial⟩ ?_
  · exact fcZ [0] rfl<|fcL (⟨(Gq.refl _).drew,Z0u HKA.o (Gq.refl _).drew⟩)<|fcN _
  · intro Ls vs w Kk H hu hD hK;go_simp;exact fcV hK (fcP 1 rfl rfl fun _=>rfl)
  · intro Ls vs w Kk H hu hD hK;have f0:vs 0= .pointer (some ⟨w0.heap.size,0,none⟩):=fcG H hu hD 1 rfl rfl rfl;go_simp;exact fcV hK (fcP 2 rfl rfl fun _=>rfl)
  · intro Ls vs w Kk H hu hD hK;obtain⟨h0,hk⟩:Gq w1 w∧Blk w w0.heap.size 116 [.bool s,.slice A L c,.slice B M d]:=fcG H hu hD 0 rfl rfl rfl;have f1:vs 1= .pointer (some ⟨w0.heap.size,1,none⟩):=fcG H hu hD 2 rfl rfl rfl;have d0:w.cell? ⟨w0.heap.size,0,none⟩=_:=hk.cell 0;have d1:w.cell? ⟨w0.heap.size,1,none⟩=_:=hk.cell 1;have d2:w.cell? ⟨w0.heap.size,2,none⟩=_:=hk.cell 2;simp only[Ze,Zf]at d0 d1 d2;go_simp;exact fcV hK (fcP 3 rfl rfl fun _=>rfl)
  · intro Ls vs w Kk H hu hD hK;obtain⟨h0,hk⟩:Gq w1 w∧Blk w w0.heap.size 116 [.bool s,.slice A L c,.slice B M d]:=fcG H hu hD 0 rfl rfl rfl;have f2:vs 2= .slice A L c:=fcG H hu hD 3 rfl rfl rfl;go_simp;refine(HTA.o w h0).mono ?_;rintro e w' ⟨rfl,hb⟩;exact⟨_,rfl,fcC hK (fun f hf _ h=>rtoK w1 w0.heap.size s A L c B M d T U f hf _ _ _ hb h) (fcP 4 rfl rfl fun _=>rfl)⟩
  · intro Ls vs w Kk H hu hD hK;go_simp;exact fcV hK (fcP 5 rfl rfl fun _=>rfl)
  · intro Ls vs w Kk H hu hD hK;obtain⟨h0,hk⟩:Gq w1 w∧Blk w w0.heap.size 116 [.bool s,.slice A L c,.slice B M d]:=fcG H hu hD 0 rfl rfl rfl;have f4:vs 4= .pointer (some ⟨w0.heap.size,2,none⟩):=fcG H hu hD 5 rfl rfl rfl;have d0:w.cell? ⟨w0.heap.size,0,none⟩=_:=hk.cell 0;have d1:w.cell? ⟨w0.heap.size,1,none⟩=_:=hk.cell 1;have d2:w.cell? ⟨w0.heap.size,2,none⟩=_:=hk.cell 2;simp only[Ze,Zf]at d0 d1 d2;go_simp;exact fcV hK (fcP 6 rfl rfl fun _=>rfl)
  · intro Ls vs w Kk H hu hD hK;obtain⟨h0,hk⟩:Gq w1 w∧Blk w w0.heap.size 116 [.bool s,.slice A L c,.slice B M d]:=fcG H hu hD 0 rfl rfl rfl;have f5:vs 5= .slice B M d:=fcG H hu hD 6 rfl rfl rfl;go_simp;refine(HTB.o w h0).mono ?_;rintro e w' ⟨rfl,hb⟩;exact⟨_,rfl,fcC hK (fun f hf _ h=>rtoK w1 w0.heap.size s A L c B M d T U f hf _ _ _ hb h) (fcP 7 rfl rfl fun _=>rfl)⟩
  · intro Ls vs w Kk H hu hD hK;have f3:vs 3= .string T:=fcG H hu hD 4 rfl rfl rfl;go_simp;exact fcV hK (fcP 8 rfl rfl fun _=>rfl)
  · intro Ls vs w Kk H hu hD hK;have f6:vs 6= .string U:=fcG H hu hD 7 rfl rfl rfl;go_simp;exact fcV hK (fcP 9 rfl rfl fun _=>rfl)
  ·
   intro vs w H;obtain⟨h0,hk⟩:Gq w1 w∧Blk w w0.heap.size 116 [.bool s,.slice A L c,.slice B M d]:=fcE H 0 rfl rfl;have f0:vs 0= .pointer (some ⟨w0.heap.size,0,none⟩):=fcE H 1 rfl rfl;have f1:vs 1= .pointer (some ⟨w0.heap.size,1,none⟩):=fcE H 2 rfl rfl;have f2:vs 2= .slice A L c:=fcE H 3 rfl rfl;have f3:vs 3= .string T:=fcE H 4 rfl rfl;have f4:vs 4= .pointer (some ⟨w0.heap.size,2,none⟩):=fcE H 5 rfl rfl;have f5:vs 5= .slice B M d:=fcE H 6 rfl rfl;have f6:vs 6= .string U:=fcE H 7 rfl rfl;have f7:vs 7= .string T:=fcE H 8 rfl rfl;have f8:vs 8= .string U:=fcE H 9 rfl rfl;clear H;simp only[Nat.zero_add,Nat.reduceAdd];have HH:Hid (Gq w1 w):=h0;clear h0 hk;simp only[f0,f1,f2,f3,f4,f5,f6,f7,f8];clear f0 f1 f2 f3 f4 f5 f6 f7 f8;go_wp2_with fail;go_meet
   case rel=>exact⟨rfl,rfl,HH⟩
 case rest=>
  obtain⟨rfl,rfl,HG⟩:=hcut;obtain⟨c0,c1,c2,c3,c4⟩:=HCE.o wc HG.o;cases s
  · have hTZ:=HT1.o rfl;subst hTZ;obtain⟨⟨k2,k3⟩,hb⟩:=HEND.o wc (.string T) (.string U) HG.o;have HB:=Za hb;clear hb;go_wp2_with fail;exact bodyPost_ret (v:= .tuple #[.agg #[.string T,.string U],.bool true]) (by simp[results,Tryz.results119,go_sem,k2,k3]) rfl ⟨rfl,HB.o⟩
  · have hTZ:=HT2.o rfl;obtain⟨⟨k2,k3⟩,hb⟩:=HEND.o wc (.string Z) (.string U) HG.o;have HB:=Za hb;clear hb;go_wp2_with fail;exact bodyPost_ret (v:= .tuple #[.agg #[.string Z,.string U],.bool true]) (by simp[results,Tryz.results119,go_sem,k2,k3]) rfl ⟨rfl,HB.o⟩
theorem Z9p (va:Value)(q:Rat)(w:World)(h:Z10 w va q)(k:Nat)(hk:Z0i k q)(hk2:k≤1000000):
  Calls Tryz.prog 78 #[va] w fun e w'=>e= .returned (Zew q)∧Below w.heap.size w w':=by
 have hag:=h;obtain⟨x,y,rfl,hu,hx,_⟩:=h;obtain⟨s,hs⟩:∃s,decide (q.num<0)=s:=⟨_,rfl⟩;rw[hs]at hag⊢;obtain⟨A,L,c,rfl⟩:=Z01 hu;obtain⟨B,M,d,rfl⟩:=Z01 hx;obtain⟨wa,hwa⟩:∃wa,wa=w.alloc (.cells #[.bool s,.slice A L c,.slice B M d] 116):=⟨_,rfl⟩;obtain⟨w1,hw1⟩:∃w1,w1=wa.alloc (.cells #[.string ⟨#[]⟩,.string ⟨#[]⟩] 59):=⟨_,rfl⟩;have z1:wa.heap.size=w.heap.size+1:=by rw[hwa];simp
 have ba:Gq w wa:=by rw[hwa];exact(Gq.refl _).alloc _
 have bc:Gq wa w1:=by rw[hw1];exact(Gq.refl _).alloc _
 have HB1:Hid (Gq w w1):=ba.trans bc;have hka:Blk w1 w.heap.size 116 [.bool s,.slice A L c,.slice B M d]:=by refine Z0u (?_:Blk wa w.heap.size _ _) bc;rw[hwa];exact Blk.new w _ _
 have c0:w1.cell? ⟨w.heap.size,0,none⟩=_:=hka.cell 0;have c1:w1.cell? ⟨w.heap.size,1,none⟩=_:=hka.cell 1;have c2:w1.cell? ⟨w.heap.size,2,none⟩=_:=hka.cell 2;simp only[Ze,Zf]at c0 c1 c2;have HKB:Hid (Blk w1 (w.heap.size+1) 59 [.string ⟨#[]⟩,.string ⟨#[]⟩]):=by rw[hw1,←z1];exact Blk.new wa _ _
 have HRT:=Za (Zex _ q 1099511627776 w1 (hag.gq HB1.o) k hk hk2 (by omega));obtain⟨T,hT⟩:∃T:ByteArray,T=⟨(Z7r q).toArray⟩:=⟨_,rfl⟩;obtain⟨U,hU⟩:∃U:ByteArray,U=⟨(Zbl q).toArray⟩:=⟨_,rfl⟩;unfold Zew at HRT⊢;rw[←hT,←hU]at HRT⊢;rw[hwa]at hw1;have HW1:=Za hw1;clear hw1 hwa hu hx hs ba bc z1 hT hU hk hag hka;go_enter Tryz.func78,Tryz.ntmps78;go_upto_region 1 with(fail);rw[←HW1.o];go_wp2_with fail;refine HRT.o.mono ?_;rintro e w2 ⟨rfl,hb⟩;have HG2:Hid (Gq w1 w2):=hb;have hws:w.heap.size+1<w2.heap.size:=by have:=HKB.o.lt;have:=hb.size;omega
 have k1:=Z0u HKB.o HG2.o;have e0:w2.cell? ⟨w.heap.size+1,0,none⟩=_:=k1.cell 0;have e1:w2.cell? ⟨w.heap.size+1,1,none⟩=_:=k1.cell 1;have e2:w2.frozen? ⟨w.heap.size+1,0,none⟩=false:=k1.frozen 0;have e3:w2.frozen? ⟨w.heap.size+1,1,none⟩=false:=k1.frozen 1;simp only[Ze,Zf]at e0 e1;obtain⟨wz,hwz⟩:∃wz,wz=((w2.setCell ⟨w.heap.size+1,0,none⟩ (.string T)).setCell ⟨w.heap.size+1,1,none⟩ (.string U)).alloc (.cells #[.string T,.string U] 59):=⟨_,rfl⟩;have k5:Blk wz (w.heap.size+1) 59 [.string T,.string U]:=by rw[hwz];exact Z0u ((k1.set_ 0 (.string T)).set_ 1 (.string U)) ((Gq.refl _).alloc _)
 have k2:wz.cell? ⟨w.heap.size+1,0,none⟩=_:=k5.cell 0;have k3:wz.cell? ⟨w.heap.size+1,1,none⟩=_:=k5.cell 1;simp only[Ze,Zf]at k2 k3;have HB:Hid (Below w.heap.size w wz):=by rw[hwz];exact(((HB1.o.trans HG2.o).set (p:=⟨w.heap.size+1,0,none⟩) (by show w.heap.size≤w.heap.size+1;omega) (.string T)).set (p:=⟨w.heap.size+1,1,none⟩) (by show w.heap.size≤w.heap.size+1;omega) (.string U)).alloc _
 have HWZ:=Za hwz;clear hb k1 c0 c1 c2 hwz k5;go_wp2_with fail;rw[←HWZ.o];exact bodyPost_ret (v:= .agg #[.string T,.string U]) (by simp[results,Tryz.results78,go_sem,k2,k3]) rfl ⟨rfl,HB.o⟩
end Go.Proofs.YtcemlhbfemenpaaGreatDoor
