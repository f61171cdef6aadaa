/- Several texts laid into one: The contract of the reference's Values; Generated (gen/cmr.py): the contract of the reference's Compare; append of any slice that reads as cells; where the grown row lies; Generated (gen/plr.py): the contract of the reference's Plain; Plain: pieces of right clips, and how long their numbers are; Generated (gen/prtr.py): the contract of the reference's part; Generated (gen/ctr.py): the contract of the reference's cut; The contracts of the reference's onTracks and checkTracks at no tracks; The contract of the reference's cutAll at no tracks; The contract of the reference's checkLift at no tracks; Generated (gen/exr.py): the contract of the reference's Extract; -/
import Derived.Test.YtcemlhbfemenpaaGreatDoorValR
import Derived.Test.YtcemlhbfemenpaaGreatDoorPrgZ
import Derived.Test.YtcemlhbfemenpaaGreatDoorRefJ
set_option maxHeartbeats 32000000
set_option maxRecDepth 100000
namespace Go.Proofs.YtcemlhbfemenpaaGreatDoor
open Go.RowKit Go.Dw
attribute [local go_sem ↓] Go.wp_at_zero Go.wp_at_succ
structure Nm3 where
 s:Bool
 a:Option Addr
 l:Nat
 c:Nat
 b:Option Addr
 m:Nat
 d:Nat
def Nm3.cs (x:Nm3):List Value:= [.bool x.s,.slice x.a x.l x.c,.slice x.b x.m x.d]
def Nm3.v (x:Nm3):Value:= .agg #[.bool x.s,.slice x.a x.l x.c,.slice x.b x.m x.d]
def Z6r (w:World)(f:Int→Rat)(R:List Nm3):Prop:=∀k (hk:k<R.length),Z0d w R[k].v (f k)
theorem Zfo {w w':World}{v:Value}{q:Rat}(h:Z0d w v q)(hk:KpT 3 w w'):Z0d w' v q:=by
 obtain⟨x,y,e,h1,h2⟩:=h;exact⟨x,y,e,h1.kept hk.s hk.b,h2.kept hk.s hk.b⟩
theorem Z6r.kp {w w':World}{f:Int→Rat}{R:List Nm3}(h:Z6r w f R)(hk:KpT 3 w w'):Z6r w' f R:=fun k hl=>Zfo (h k hl) hk
theorem Z6r.gq {w w':World}{f:Int→Rat}{R:List Nm3}(h:Z6r w f R)(hk:Gq w w'):Z6r w' f R:=fun k hl=>Z1f.gq (h k hl) hk
theorem Z6r.snoc {w:World}{f:Int→Rat}{R:List Nm3}{y:Nm3}(h:Z6r w f R)(hy:Z0d w y.v (f R.length)):Z6r w f (R++ [y]):=fun k hl=>by
 rcases Nat.lt_or_ge k R.length with h1|h1
 · rw[List.getElem_append_left h1];exact h k h1
 · obtain rfl:k=R.length:=(by rw[Zj,List.length_singleton]at hl;omega);rw[List.getElem_append_right (Zh _)];simpa using hy
def VlsR (f:Int→Rat)(n:Nat)(w:World)(e:Ending)(w':World):Prop:=
 Gq w w'∧∃(A:Option Addr) (c:Nat) (R:List Nm3),e= .returned (.slice A n c)∧(R.length=n∧n≤c)∧Rd w' A (R.flatMap Nm3.cs)∧Z6r w' f R
theorem own_capV {w:World}{base n size c:Nat}{e:TypeId}{A:Option Addr}{xs:List Value}(h:w.ownsRow base e size (.slice A n c) n xs):n≤c:=by
 rcases h.2 with⟨hv,h0⟩|⟨g,cap,cur,hv,hb,hg,hn,hm,hs,ht⟩
 · omega
 · injection hv with _ _ h3;subst h3;assumption
theorem infoNum:(Tryz.prog.info? 85).map (fun i=>(i.zero,i.size,i.bytes))=some (some (.agg #[.bool false,.slice none 0 0,.slice none 0 0]),3,56):=by kernel_rfl
theorem vls_end {wz wr w9:World}{B:Nat}{AO:Option Addr}{cO:Nat}{v9:Value}{f:Int→Rat}{R:List Nm3}{y:Nm3}{o:Obj}(hg:Gq wz wr)(hz:wz.heap.size=B)(ho:wr.ownsRow B 85 3 (.slice AO R.length cO) R.length (R.flatMap Nm3.cs))(ht:Z6r wr f R)(hy:Z0d wr y.v (f R.length))
  (hown:w9.ownsRow B 85 3 v9 (R.length+1) (R.flatMap Nm3.cs++y.cs)) (hgr:(wr.alloc o).grownBy w9 (Value.slice AO R.length cO).ownBlock):
  Gq wz w9∧w9.ownsRow B 85 3 v9 (R++ [y]).length ((R++ [y]).flatMap Nm3.cs)∧Z6r w9 f (R++ [y]):=by
 have hk:KpT 3 wr w9:=((KpT.refl _ wr).alloc o).trans (KpT.own (ho.alloc o) hgr (by decide));refine⟨Below.grown (hg.alloc o) hgr (by have:=Below.size hg;simp;omega) (fun j hj=>by have:=(ho.lt j hj).1;omega), ?_,(ht.kp hk).snoc (Zfo hy hk)⟩;rw[Zj,List.flatMap_append];simpa using hown
theorem own_sv {w:World}{B c:Nat}{A:Option Addr}{R:List Nm3}{y:Nm3}{xs:List Value}(h:w.ownsRow B 85 3 (.slice A (R.length+1) c) (R++ [y]).length xs):w.ownsRow B 85 3 (.slice A (R++ [y]).length c) (R++ [y]).length xs:=by
 rw[Zj]at h⊢;exact h
theorem vals_any (x:CliM)(w:World)(hx:CliOk w x)(hv:EnvV x.ln x.e.xs)(hln:1≤x.ln∧x.ln≤100000)(hp:HasPow w):
  Calls Tryz.prog 64 #[x.v] w (VlsR (Z38 x.e.xs) x.ln.toNat w):=by
 obtain⟨b0,hb0⟩:∃b,w.heap.size=b:=⟨_,rfl⟩;obtain⟨m,hm⟩:∃m:Nat,x.ln=(m:Int):=⟨x.ln.toNat,by omega⟩;obtain⟨wz,hwz⟩:∃wz,wz=w.alloc (.cells #[.string x.m,.int .i64 x.ch,.int .i64 x.fr,.int .i64 x.tr,.int .i64 x.at_,.int .i64 x.ln,.slice x.e.a x.e.xs.length x.e.c] 39):=⟨_,rfl⟩;have hg:Gq w wz:=by rw[hwz];exact(Gq.refl _).alloc _
 have HZ:Hid (wz.heap.size=b0+1):=by show _=_;rw[hwz];simp;omega
 have HKC:Hid (Blk wz b0 39 [.string x.m,.int .i64 x.ch,.int .i64 x.fr,.int .i64 x.tr,.int .i64 x.at_,.int .i64 x.ln,.slice x.e.a x.e.xs.length x.e.c]):=by rw[hwz,←hb0];exact Blk.new w _ _
 obtain⟨fq,hfq⟩:∃fq,Z38 x.e.xs=fq:=⟨_,rfl⟩;have HVA:Hid (∀(j:Nat) (W:World),Gq wz W→j<m→Calls Tryz.prog 53 #[x.v,.int .i64 (j:Int)] W fun e w'=>∃v,e= .returned v∧Z0d w' v (fq j)∧Gq W w'):=fun j W hW hj=>by rw[←hfq];exact Zcf x j W (hx.below (hg.trans hW)) hv hln.2 (by omega) (hp.below (hg.trans hW))
 have hm9:m≤100000:=by omega
 rw[hfq];obtain⟨q,hq⟩:∃q,VlsR fq x.ln.toNat w=q:=⟨_,rfl⟩;have HEND:Hid (∀(R:List Nm3) (AO:Option Addr) (cO:Nat) (W:World),R.length=m→W.ownsRow (b0+1) 85 3 (.slice AO R.length cO) R.length (R.flatMap Nm3.cs)→Z6r W fq R→Gq wz W→q (.returned (.slice AO R.length cO)) W):=fun R AO cO W h1 h2 h3 h4=>by rw[←hq];have e:x.ln.toNat=R.length:=(by omega);rw[e];exact⟨hg.trans h4,AO,cO,R,rfl,⟨rfl,own_capV h2⟩,(RdT.of_own h2).rd,h3⟩
 rw[hq];have HWZ:=Za hwz;obtain⟨ii,hii,hzi0,hzi1,hzi2⟩:=info_parts infoNum;have HII:=Za (And.intro hii (And.intro hzi0 (And.intro hzi1 hzi2)));clear hwz hg hx hv hln hfq hq hii hzi0 hzi1 hzi2 hp;obtain⟨xm,xc,xf,xt,xa,xl,⟨EA,ed,es⟩⟩:=x;simp only[CliM.v,Slc.v]at HVA⊢;simp only at HKC HWZ hm;subst hm;obtain⟨en,hen⟩:∃en:Nat,es.length=en:=⟨_,rfl⟩;rw[hen]at HKC HVA HWZ⊢;clear hen;go_enter Tryz.func64,Tryz.ntmps64;go_upto_region 1 with(fail);rw[←HWZ.o];try simp only[hb0]
 clear hb0;go_wp2_with fail
 go_loopw [3,4] (fun ov kv wq=>∃(R:List Nm3) (AO:Option Addr) (cO:Nat),R.length≤m∧kv= .int .i64 (R.length:Int)∧ov= .slice AO R.length cO∧Hid (wq.ownsRow (b0+1) 85 3 (.slice AO R.length cO) R.length (R.flatMap Nm3.cs)∧Z6r wq fq R∧Gq wz wq)) (fun _ kv _=>m - (intOf kv).toNat)
 case atStart=>exact⟨[],none,0,Nat.zero_le _,rfl,rfl,World.ownsRow_nil _ _ _ _,(fun k hk=>by simp at hk),Gq.refl _⟩
 case round=>
  obtain⟨R,AO,cO,hj,rfl,rfl,HW⟩:=hrel;have hkc:=Z0o HKC.o HW.o.2.2;have c0:wr.cell? ⟨b0,0,none⟩=some (.string xm):=hkc.cell 0;have c1:wr.cell? ⟨b0,1,none⟩=some (.int .i64 xc):=hkc.cell 1;have c2:wr.cell? ⟨b0,2,none⟩=some (.int .i64 xf):=hkc.cell 2;have c3:wr.cell? ⟨b0,3,none⟩=some (.int .i64 xt):=hkc.cell 3;have c4:wr.cell? ⟨b0,4,none⟩=some (.int .i64 xa):=hkc.cell 4;have c5:wr.cell? ⟨b0,5,none⟩=some (.int .i64 (m:Int)):=hkc.cell 5;have c6:wr.cell? ⟨b0,6,none⟩=some (.slice EA en ed):=hkc.cell 6;clear hkc;obtain⟨j,hjj⟩:∃j,R.length=j:=⟨_,rfl⟩;have HJ:=Za hjj;rw[hjj]at hj⊢;clear hjj;by_cases hlt:j<m
  case neg=>have hd0:decide (j<m)=false:=(by simpa using hlt);have HFIN:=Za (HEND.o R AO cO wr (by have:=HJ.o;omega) HW.o.1 HW.o.2.1 HW.o.2.2);rw[HJ.o]at HFIN;clear hlt;go_wp2_with fail;exact HFIN.o
  have hd0:decide (j<m)=true:=by simpa using hlt
  have HC1:=Za (HVA.o j wr HW.o.2.2 hlt);go_wp2_with fail;refine HC1.o.mono ?_;rintro e w5 ⟨v,rfl,hv5,hg5⟩;obtain⟨zA,zL,zc,zB,zM,zd,rfl, -, -⟩:=Z0c hv5;generalize decide ((fq (j:Int)).num<0)=zs at hv5⊢;have HGZ5:Hid (Gq wz w5):=HW.o.2.2.trans hg5;have HO5:Hid (w5.ownsRow (b0+1) 85 3 (.slice AO R.length cO) R.length (R.flatMap Nm3.cs)):=Z04 HW.o.1 hg5;have HT5:Hid (Z6r w5 fq R):=HW.o.2.1.gq hg5;have HV5:Hid (Z0d w5 (.agg #[.bool zs,.slice zA zL zc,.slice zB zM zd]) (fq R.length)):=by rw[HJ.o];exact hv5
  have HZ5:Hid (b0+1≤w5.heap.size):=by have h1:=Below.size HGZ5.o;have h2:=HZ.o;show _≤_;omega
  rw[←HJ.o];have hj2:R.length<m:=by have:=HJ.o;omega
  clear hv5 hg5 HC1 c0 c1 c2 c3 c4 c5 c6 hlt hd0;go_wp2_with (at_builtin; (refine wpList_append_own _ rfl _ _ 83 rfl (b0+1) 85 ii _ 3 56 Tryz.underlying83 HII.o.1 HII.o.2.1 HII.o.2.2.1 HII.o.2.2.2 rfl (by decide) (.slice AO R.length cO) R.length (R.flatMap Nm3.cs) rfl (HO5.o.alloc _) ⟨w5.heap.size,0,none⟩ 1 1 [.bool zs,.slice zA zL zc,.slice zB zM zd] (by rfl) (by rfl) (World.news_of_block (cs:= #[.bool zs,.slice zA zL zc,.slice zB zM zd]) (t:=85) (fr:=(0,0)) (by exact heap_alloc_new w5 _)) (by simp[Value.oneCell']) (by unfold maxLen;omega) (by omega) (by have:=HZ5.o;simp;omega) ?_);intro v9 w9 hown9 hgrow9 _;have hend:=vls_end (y:=⟨zs,zA,zL,zc,zB,zM,zd⟩) HGZ5.o HZ.o HO5.o HT5.o HV5.o hown9 hgrow9;obtain⟨A9,c9,rfl⟩:=Z08 hown9;have HE9:=Za hend;clear hend hown9 hgrow9);go_roundw
  case rel=>exact⟨R++ [⟨zs,zA,zL,zc,zB,zM,zd⟩],A9,c9,by rw[Zj,List.length_singleton];omega,by rw[Zj,List.length_singleton];have:=HJ.o;go_num,by rw[Zj];rfl,own_sv HE9.o.2.1,HE9.o.2.2,HE9.o.1⟩
  case measure=>have:=HJ.o;simp[intOf];omega
end Go.Proofs.YtcemlhbfemenpaaGreatDoor
namespace Go.Proofs.YtcemlhbfemenpaaGreatDoor
open Go.RowKit Go.Dw
open Go.Dwo (fcL fcN fcK fcZ fcG fcE fcD fcV fcC fcP Z00)
attribute [local go_sem ↓] Go.wp_at_zero Go.wp_at_succ
attribute [local go_sem] Go.Dwo.Oper.tame Go.Dwo.actOf List.getD_cons_zero List.getD_cons_succ
theorem Zfp {w:World}{s:Bool}{A:Option Addr}{L c:Nat}{B:Option Addr}{M d:Nat}{z:Rat}(h:Z0d w (.agg #[.bool s,.slice A L c,.slice B M d]) z):(L=0↔z=0)∧(s=true↔z.num<0):=by
 unfold Z0d at h;obtain⟨x,y,e,h1,h2⟩:=h;injection e with e;have e2:=Array.mk.inj e;simp only[List.cons.injEq]at e2;obtain⟨e3,e4, -⟩:=e2;injection e3 with e3;subst e4;obtain⟨A',c',L',e5,hL⟩:=Z3b h1;injection e5 with e5 e6 e7;subst e6;refine⟨hL.trans ?_,by rw[e3];simp⟩;rw[Int.natAbs_eq_zero,Rat.num_eq_zero]
theorem cmpQ_sub (p q:Rat):(p+ -q=0→Z4n p q=0)∧((p+ -q).num<0→Z4n p q= -1)∧(p+ -q≠0→¬(p+ -q).num<0→Z4n p q=1):=by
 have h1:(p+ -q).num<0↔p.num*q.den<q.num*p.den:=by rw[←Z8t,Rat.neg_num,Rat.neg_den,Za4 (Nat.mul_pos p.den_pos q.den_pos),Int.neg_mul];constructor<;>intro<;>omega
 have h2:p+ -q=0↔p=q:=by
  constructor
  · intro h;have e:p+ -q+q=0+q:=(by rw[h]);rwa [Rat.add_assoc,Rat.neg_add_cancel,Rat.add_zero,Rat.zero_add]at e
  · rintro rfl;rw[Rat.add_comm,Rat.neg_add_cancel]
 refine⟨fun h=>(Z1t p q).2 (h2.1 h),fun h=> ?_,fun h3 h4=> ?_⟩
 · unfold Z4n Z1x;rw[if_pos (h1.1 h)]
 ·
  have e1:¬Z4n p q=0:=fun e=>h3 (h2.2 ((Z1t p q).1 e));have e2:¬p.num*q.den<q.num*p.den:=fun e=>h4 (h1.2 e);revert e1;unfold Z4n Z1x;rw[if_neg e2]
  split<;>simp
def cmrF (w0:World)(g:Nat)(sa sb:Bool)(A:Option Addr)(L c:Nat)(A':Option Addr)(L' c':Nat)(B:Option Addr)(M d:Nat)(B':Option Addr)(M' d':Nat)(p q:Rat):List Go.Dwo.Fact:= [
 ⟨[],[],fun _ W=>Gq w0 W∧g+2≤w0.heap.size∧Blk W g 85 [.bool sa,.slice A L c,.slice A' L' c']∧Blk W (g+1) 85 [.bool sb,.slice B M d,.slice B' M' d']∧Z0d W (.agg #[.bool sa,.slice A L c,.slice A' L' c']) p∧Z0d W (.agg #[.bool sb,.slice B M d,.slice B' M' d']) q⟩,
 ⟨[0],[],fun vs _=>vs 0= .agg #[.bool sa,.slice A L c,.slice A' L' c']⟩,
 ⟨[1],[],fun vs _=>vs 1= .agg #[.bool sb,.slice B M d,.slice B' M' d']⟩,
 ⟨[2],[],fun vs W=>∃zs zA zL zc zB zM zd,vs 2= .agg #[.bool zs,.slice zA zL zc,.slice zB zM zd]∧Z0d W (.agg #[.bool zs,.slice zA zL zc,.slice zB zM zd]) (-q)⟩,
 ⟨[3],[],fun vs W=>∃zs zA zL zc zB zM zd,vs 3= .agg #[.bool zs,.slice zA zL zc,.slice zB zM zd]∧Z0d W (.agg #[.bool zs,.slice zA zL zc,.slice zB zM zd]) (p+ -q)⟩,
 ⟨[4],[5],fun vs W=>∃zg,vs 4= .pointer (some ⟨zg,0,none⟩)∧w0.heap.size≤zg∧NB 85 W zg⟩,
 ⟨[4,5],[],fun vs W=>∃zg zs zA zL zc zB zM zd,vs 4= .pointer (some ⟨zg,0,none⟩)∧Blk W zg 85 [.bool zs,.slice zA zL zc,.slice zB zM zd]∧Z0d W (.agg #[.bool zs,.slice zA zL zc,.slice zB zM zd]) (p+ -q)⟩]
theorem cmrK (w0:World)(g:Nat)(sa sb:Bool)(A:Option Addr)(L c:Nat)(A':Option Addr)(L' c':Nat)(B:Option Addr)(M d:Nat)(B':Option Addr)(M' d':Nat)(p q:Rat):∀f∈cmrF w0 g sa sb A L c A' L' c' B M d B' M' d' p q,∀vs w w',Gq w w'→f.says vs w→f.says vs w':=
 fcL (fun _ _ _ hg h=>⟨h.1.trans hg,h.2.1,Z0b h.2.2.1 hg,Z0b h.2.2.2.1 hg,Z1f.gq h.2.2.2.2.1 hg,Z1f.gq h.2.2.2.2.2 hg⟩)<|fcL (fun _ _ _ _ h=>h)<|fcL (fun _ _ _ _ h=>h)<|fcL (fun _ _ _ hg h=>(by obtain⟨zs,zA,zL,zc,zB,zM,zd,h1,h2⟩:=h;exact⟨zs,zA,zL,zc,zB,zM,zd,h1,Z1f.gq h2 hg⟩))<|fcL (fun _ _ _ hg h=>(by obtain⟨zs,zA,zL,zc,zB,zM,zd,h1,h2⟩:=h;exact⟨zs,zA,zL,zc,zB,zM,zd,h1,Z1f.gq h2 hg⟩))<|fcL (fun _ _ _ hg h=>(by obtain⟨zg,h1,h2,h3⟩:=h;exact⟨zg,h1,h2,h3.gq hg⟩))<|fcL (fun _ _ _ hg h=>(by obtain⟨zg,zs,zA,zL,zc,zB,zM,zd,h1,h2,h3⟩:=h;exact⟨zg,zs,zA,zL,zc,zB,zM,zd,h1,Z0b h2 hg,Z1f.gq h3 hg⟩))<|fcN _
theorem Z52 (vx vy:Value)(p q:Rat)(w:World)(h:Z0d w vx p)(gq:Z0d w vy q)(k:Nat)(hk:Z0i k p)(gk:Z0i k q)(hk2:k+k≤1000000):
  Calls Tryz.prog 93 #[vx,vy] w fun e w'=>e= .returned (.int .i64 (Z4n p q))∧Gq w w':=by
 have HSG:=Za (cmpQ_sub p q);obtain⟨r,hr⟩:∃r,Z4n p q=r:=⟨_,rfl⟩;rw[hr]at HSG⊢;clear hr;have h2:=h;have g2:=gq;unfold Z0d at h2 g2;obtain⟨A,L,c,A',L',c',rfl, -, -⟩:=Z0c h2;obtain⟨B,M,d,B',M',d',rfl, -, -⟩:=Z0c g2;obtain⟨sa,hsa⟩:∃s,decide (p.num<0)=s:=⟨_,rfl⟩;obtain⟨sb,hsb⟩:∃s,decide (q.num<0)=s:=⟨_,rfl⟩;rw[hsa]at h⊢;rw[hsb]at gq⊢;obtain⟨g,hg⟩:∃g,w.heap.size=g:=⟨_,rfl⟩;obtain⟨wa,hwa⟩:∃wa,wa=w.alloc (.cells #[.bool sa,.slice A L c,.slice A' L' c'] 85):=⟨_,rfl⟩;obtain⟨w0,hw0⟩:∃w0,w0=wa.alloc (.cells #[.bool sb,.slice B M d,.slice B' M' d'] 85):=⟨_,rfl⟩;have hza:wa.heap.size=g+1:=by rw[hwa];simp;omega
 have hz0:w0.heap.size=g+2:=by rw[hw0];simp;omega
 have hga:Gq w wa:=by rw[hwa];exact(Gq.refl _).alloc _
 have hgb:Gq wa w0:=by rw[hw0];exact(Gq.refl _).alloc _
 have HG:Hid (Gq w w0):=hga.trans hgb
 have HBASE:Hid (Gq w0 w0.drew∧g+2≤w0.heap.size∧Blk w0.drew g 85 [.bool sa,.slice A L c,.slice A' L' c']∧Blk w0.drew (g+1) 85 [.bool sb,.slice B M d,.slice B' M' d']∧Z0d w0.drew (.agg #[.bool sa,.slice A L c,.slice A' L' c']) p∧Z0d w0.drew (.agg #[.bool sb,.slice B M d,.slice B' M' d']) q):=by
  have hd:Gq w0 w0.drew:=(Gq.refl _).drew;have hh:=(hga.trans hgb).trans hd;refine⟨hd,by omega,Z0b (?_:Blk wa g _ _) (hgb.trans hd),Z0b (?_:Blk w0 (g+1) _ _) hd,Z1f.gq h hh,Z1f.gq gq hh⟩
  · rw[hwa,←hg];exact Blk.new w _ _
  · rw[hw0,←hza];exact Blk.new wa _ _
 have HK:Hid (Z0i k p∧Z0i k q∧k+k≤1000000):=⟨hk,gk,hk2⟩;rw[hwa]at hw0;have HW0:=Za hw0;have HGG:=Za hg;clear hw0 hwa h gq h2 g2 hsa hsb hza hz0 hga hgb hk gk hk2;go_enter Tryz.func93,Tryz.ntmps93;go_upto_region 1 with(fail);rw[←HW0.o];try simp only[hg]
 clear hg;refine Z00 _ (by kernel_rfl) [[],[],[1],[0,1,2],[],[0,1,2,3,4]] (by kernel_rfl) (by kernel_rfl) [some 6,some 7,some 8,some 9,some 5,none] (by kernel_rfl) (fun vs=>by simp only[Go.Dwo.putA,Go.Dwo.putL,if_true,Act.put,Zb,Zc,Zd];rfl) (cmrF w0 g sa sb A L c A' L' c' B M d B' M' d' p q) (by kernel_rfl) ?_ ⟨?_, ?_, ?_, ?_, ?_, ?_,trivial⟩ ?_
 · exact fcZ [0] rfl<|fcL (HBASE.o)<|fcN _
 · intro Ls vs w Kk H hu hD hK;obtain⟨h0,hz,ka,kb,va,vb⟩:Gq w0 w∧g+2≤w0.heap.size∧Blk w g 85 [.bool sa,.slice A L c,.slice A' L' c']∧Blk w (g+1) 85 [.bool sb,.slice B M d,.slice B' M' d']∧Z0d w (.agg #[.bool sa,.slice A L c,.slice A' L' c']) p∧Z0d w (.agg #[.bool sb,.slice B M d,.slice B' M' d']) q:=fcG H hu hD 0 rfl rfl rfl;have d0:w.cell? ⟨g,0,none⟩=_:=ka.cell 0;have d1:w.cell? ⟨g,1,none⟩=_:=ka.cell 1;have d2:w.cell? ⟨g,2,none⟩=_:=ka.cell 2;simp only[Ze,Zf]at d0 d1 d2;go_simp;exact fcV hK (fcP 1 rfl rfl fun _=>rfl)
 · intro Ls vs w Kk H hu hD hK;obtain⟨h0,hz,ka,kb,va,vb⟩:Gq w0 w∧g+2≤w0.heap.size∧Blk w g 85 [.bool sa,.slice A L c,.slice A' L' c']∧Blk w (g+1) 85 [.bool sb,.slice B M d,.slice B' M' d']∧Z0d w (.agg #[.bool sa,.slice A L c,.slice A' L' c']) p∧Z0d w (.agg #[.bool sb,.slice B M d,.slice B' M' d']) q:=fcG H hu hD 0 rfl rfl rfl;have d0:w.cell? ⟨g+1,0,none⟩=_:=kb.cell 0;have d1:w.cell? ⟨g+1,1,none⟩=_:=kb.cell 1;have d2:w.cell? ⟨g+1,2,none⟩=_:=kb.cell 2;simp only[Ze,Zf]at d0 d1 d2;go_simp;exact fcV hK (fcP 2 rfl rfl fun _=>rfl)
 · intro Ls vs w Kk H hu hD hK;obtain⟨h0,hz,ka,kb,va,vb⟩:Gq w0 w∧g+2≤w0.heap.size∧Blk w g 85 [.bool sa,.slice A L c,.slice A' L' c']∧Blk w (g+1) 85 [.bool sb,.slice B M d,.slice B' M' d']∧Z0d w (.agg #[.bool sa,.slice A L c,.slice A' L' c']) p∧Z0d w (.agg #[.bool sb,.slice B M d,.slice B' M' d']) q:=fcG H hu hD 0 rfl rfl rfl;have f1:vs 1= .agg #[.bool sb,.slice B M d,.slice B' M' d']:=fcG H hu hD 2 rfl rfl rfl;go_simp;refine(Z3m _ _ w vb).mono ?_;rintro e w' ⟨v,rfl,hv,hb⟩;obtain⟨X,N,f,Y,O,t,rfl, -, -⟩:=Z0c hv;exact⟨_,rfl,fcC hK (fun f hf _ h=>cmrK w0 g sa sb A L c A' L' c' B M d B' M' d' p q f hf _ _ _ hb h) (fcP 3 rfl rfl fun _=>⟨_,X,N,f,Y,O,t,rfl,hv⟩)⟩
 · intro Ls vs w Kk H hu hD hK;obtain⟨h0,hz,ka,kb,va,vb⟩:Gq w0 w∧g+2≤w0.heap.size∧Blk w g 85 [.bool sa,.slice A L c,.slice A' L' c']∧Blk w (g+1) 85 [.bool sb,.slice B M d,.slice B' M' d']∧Z0d w (.agg #[.bool sa,.slice A L c,.slice A' L' c']) p∧Z0d w (.agg #[.bool sb,.slice B M d,.slice B' M' d']) q:=fcG H hu hD 0 rfl rfl rfl;have f0:vs 0= .agg #[.bool sa,.slice A L c,.slice A' L' c']:=fcG H hu hD 1 rfl rfl rfl;obtain⟨zs2,zA2,zL2,zc2,zB2,zM2,zd2,e2,v2⟩:∃zs zA zL zc zB zM zd,vs 2= .agg #[.bool zs,.slice zA zL zc,.slice zB zM zd]∧Z0d w (.agg #[.bool zs,.slice zA zL zc,.slice zB zM zd]) (-q):=fcG H hu hD 3 rfl rfl rfl;go_simp;refine(Z3g _ _ _ _ w va v2 k HK.o.1 HK.o.2.1.neg (by have:=HK.o.2.2;omega)).mono ?_;rintro e w' ⟨v,rfl,hv,hb⟩;obtain⟨X,N,f,Y,O,t,rfl, -, -⟩:=Z0c hv;exact⟨_,rfl,fcC hK (fun f hf _ h=>cmrK w0 g sa sb A L c A' L' c' B M d B' M' d' p q f hf _ _ _ hb h) (fcP 4 rfl rfl fun _=>⟨_,X,N,f,Y,O,t,rfl,hv⟩)⟩
 · intro Ls vs w Kk H hu hD hK;obtain⟨h0,hz,ka,kb,va,vb⟩:Gq w0 w∧g+2≤w0.heap.size∧Blk w g 85 [.bool sa,.slice A L c,.slice A' L' c']∧Blk w (g+1) 85 [.bool sb,.slice B M d,.slice B' M' d']∧Z0d w (.agg #[.bool sa,.slice A L c,.slice A' L' c']) p∧Z0d w (.agg #[.bool sb,.slice B M d,.slice B' M' d']) q:=fcG H hu hD 0 rfl rfl rfl;have hh0:=h0;go_simp;refine hK.out _ _ (fun f hf _ _ _ h=>cmrK w0 g sa sb A L c A' L' c' B M d B' M' d' p q f hf _ _ _ (Gq.alloc (Gq.refl _) _) h) ?_;exact fcK [5,6] rfl<|fcL (fun _=>⟨_,rfl,Below.size hh0,NB.new _ _ (Z0h _) (Z03 _ _ _) (Z03 _ _ _)⟩)<|fcL (fun hL=>absurd (show(4:Nat)∈([0,1,2,3,4]:List Nat)from by decide) (hL 5 (show(5:Nat)∈([4,5]:List Nat)from by decide) (show(5:Nat)≠4 from by decide)).2)<|fcN _
 · intro Ls vs w Kk H hu hD hK;obtain⟨h0,hz,ka,kb,va,vb⟩:Gq w0 w∧g+2≤w0.heap.size∧Blk w g 85 [.bool sa,.slice A L c,.slice A' L' c']∧Blk w (g+1) 85 [.bool sb,.slice B M d,.slice B' M' d']∧Z0d w (.agg #[.bool sa,.slice A L c,.slice A' L' c']) p∧Z0d w (.agg #[.bool sb,.slice B M d,.slice B' M' d']) q:=fcG H hu hD 0 rfl rfl rfl;obtain⟨zs3,zA3,zL3,zc3,zB3,zM3,zd3,e3,v3⟩:∃zs zA zL zc zB zM zd,vs 3= .agg #[.bool zs,.slice zA zL zc,.slice zB zM zd]∧Z0d w (.agg #[.bool zs,.slice zA zL zc,.slice zB zM zd]) (p+ -q):=fcG H hu hD 4 rfl rfl rfl;obtain⟨g4,e4,l4,b4⟩:∃zg,vs 4= .pointer (some ⟨zg,0,none⟩)∧w0.heap.size≤zg∧NB 85 w zg:=fcG H hu hD 5 rfl rfl rfl;have HDD:=Za (fcD hD [5] rfl);obtain⟨x0,x1,x2,c0,c1,c2,d0,d1,d2⟩:=b4.cells;have hzz:=hz;go_simp;have ho:=Zbd w g4 (.bool zs3) (.slice zA3 zL3 zc3) (.slice zB3 zM3 zd3);refine hK.out _ _ (fcL (fun _ _ _ h=>⟨Z24 h.1 l4 _ _ _,h.2.1,ho.blk h.2.2.1 (by omega),ho.blk h.2.2.2.1 (by omega),b4.num ho h.2.2.2.2.1,b4.num ho h.2.2.2.2.2⟩)<|fcL (fun _ _ _ h=>h)<|fcL (fun _ _ _ h=>h)<|fcL (fun _ _ _ h=>(by obtain⟨zs,zA,zL,zc,zB,zM,zd,h1,h2⟩:=h;exact⟨zs,zA,zL,zc,zB,zM,zd,h1,b4.num ho h2⟩))<|fcL (fun _ _ _ h=>(by obtain⟨zs,zA,zL,zc,zB,zM,zd,h1,h2⟩:=h;exact⟨zs,zA,zL,zc,zB,zM,zd,h1,b4.num ho h2⟩))<|fcL (fun _ hn _ _=>absurd (show(5:Nat)∈([5]:List Nat)from by decide) hn)<|fcL (fun hn _ _ _=>absurd (show(5:Nat)∈([4,5]:List Nat)from by decide) hn)<|fcN _) ?_;exact fcP 6 rfl rfl fun _=>⟨g4,zs3,zA3,zL3,zc3,zB3,zM3,zd3,e4,b4.store,b4.num ho v3⟩
 ·
  intro vs w H;obtain⟨h0,hz,ka,kb,va,vb⟩:Gq w0 w∧g+2≤w0.heap.size∧Blk w g 85 [.bool sa,.slice A L c,.slice A' L' c']∧Blk w (g+1) 85 [.bool sb,.slice B M d,.slice B' M' d']∧Z0d w (.agg #[.bool sa,.slice A L c,.slice A' L' c']) p∧Z0d w (.agg #[.bool sb,.slice B M d,.slice B' M' d']) q:=fcE H 0 rfl rfl;have f0:vs 0= .agg #[.bool sa,.slice A L c,.slice A' L' c']:=fcE H 1 rfl rfl;have f1:vs 1= .agg #[.bool sb,.slice B M d,.slice B' M' d']:=fcE H 2 rfl rfl;obtain⟨g5,s5,A5,L5,c5,B5,M5,d5,e5,k5,v5⟩:∃zg zs zA zL zc zB zM zd,vs 4= .pointer (some ⟨zg,0,none⟩)∧Blk w zg 85 [.bool zs,.slice zA zL zc,.slice zB zM zd]∧Z0d w (.agg #[.bool zs,.slice zA zL zc,.slice zB zM zd]) (p+ -q):=fcE H 6 rfl rfl;clear H;simp only[Nat.zero_add,Nat.reduceAdd];have HFIN:Hid (Gq w0 w):=h0;have HV5:=Za v5;have q1:w.cell? ⟨g5,1,none⟩=some (.slice A5 L5 c5):=k5.cell 1;have q0:w.cell? ⟨g5,0,none⟩=some (.bool s5):=k5.cell 0;obtain⟨hn1,hn2⟩:=Zfp HV5.o;have HN1:=Za hn1;have HN2:=Za hn2;clear h0 hz ka kb va vb k5 v5 hn1 hn2;simp only[e5];clear e5 f0 f1;generalize vs 2=z2,vs 3=z3;by_cases hl:L5=0
  · have hd:((L5:Int)==0)=true:=(by rw[hl];rfl);have HR:=Za (HSG.o.1 (HN1.o.1 hl));clear hl;go_wp2_with fail;go_ret;exact⟨by have h:=HR.o;subst h;rfl,HG.o.trans HFIN.o⟩
  ·
   have hd:((L5:Int)==0)=false:=(by rw[beq_eq_false_iff_ne];omega);have HNZ:Hid (p+ -q≠0):=fun h=>hl (HN1.o.2 h);clear hl;cases s5 with
   |true=>
    have HR:=Za (HSG.o.2.1 (HN2.o.1 rfl));go_wp2_with fail;go_ret;exact⟨by have h:=HR.o;subst h;rfl,HG.o.trans HFIN.o⟩
   |false=>
    have HR:=Za (HSG.o.2.2 HNZ.o (fun h=>by have:=HN2.o.2 h;cases this));go_wp2_with fail;go_ret;exact⟨by have h:=HR.o;subst h;rfl,HG.o.trans HFIN.o⟩
end Go.Proofs.YtcemlhbfemenpaaGreatDoor
namespace Go.Dw
open Go Go.RowKit
theorem Z2r {P:Program}{w:World}{ops:Array Oper}{rest:List Oper}{o:Oper}{a:Act}{Q:Exit→Act→World→Prop}(hgd:o.guard=none)(s x:Operand)(t:TypeId)
  (ho:o.op= .call {callee:= .builtin .append,args:= #[s,x],argTypes:= #[t,t]})
  (base:Nat) (e:TypeId) (i:TypeInfo) (z:Value) (size bytes:Nat) (ht:P.underlying t=some (.slice e)) (hi:P.info? e=some i) (hz:i.zero=some z)
  (hsize:i.size=size) (hby:i.bytes=bytes) (hzs:z.cells.size=size) (hsz:0<size)
  (v:Value) (n:Nat) (xs:List Value) (hs:a.eval s=v) (hown:w.ownsRow base e size v n xs)
  (A:Option Addr) (m c:Nat) (news:List Value) (hx:a.eval x= .slice A m c) (hl:news.length=m*size) (hR:Rd w A news) (h1:∀u∈news,u.oneCell'=true)
  (h63:n+m≤maxLen) (hbytes:(n+m)*bytes≤140737488355328) (hbase:base≤w.heap.size)
  (h:∀v' w',w'.ownsRow base e size v' (n+m) (xs++news)→w.grownBy w' v.ownBlock→(∀b,v'.ownBlock=some b→v.ownBlock=some b∨w.heap.size≤b)→wpList P ops Q rest (a.put o.dst v') w'):wpList P ops Q (o::rest) a w:=by
 cases A with
 |none=>
  have h0:news= []:=by
   rcases hR with hR|⟨b,off,e,_⟩
   · exact hR
   · cases e
  subst h0
  have hm:m=0:=by
   rcases Nat.eq_zero_or_pos m with k|k
   · exact k
   · have:=Nat.mul_pos k hsz;simp at hl;omega
  subst hm;refine wpList_plain hgd fun K hK=> ?_;have hrun:=Z2o (P:=P) (w:=w) base t o.type e i size ht hi v n xs hown c;unfold Oper.wp;simp[execOp,ho,resolve,invoke,builtin,hs,hx,hrun,Result.andThen];exact hK _ _ (h v w (by simpa using hown) (Z6n w _) (fun b hb=> .inl hb))
 |some ad=>
  obtain⟨v',w',hrun,h2,h3,_,h5⟩:=run_append_own_at (P:=P) w base t o.type e i z size bytes ht hi hz hsize hby hzs hsz v n xs hown ad m c news hl (fun j u hu=>by
   rcases hR with hR|⟨b,off,e,hb,hc⟩
   · subst hR;simp at hu
   ·
    injection e with e;subst e;have hadd:(⟨b,off,none⟩:Addr).add j=⟨b,off+j,none⟩:=by unfold Addr.add;split<;>simp_all
    rw[hadd];exact hc j u hu) h1 h63 hbytes hbase
  refine wpList_plain hgd fun K hK=> ?_;unfold Oper.wp;simp[execOp,ho,resolve,invoke,builtin,hs,hx,hrun,Result.andThen];refine hK _ _ (h v' w' h2 h3 (fun b hb=> ?_));rcases h5 with h5|h5
  · exact .inl (by rw[←h5];exact hb)
  · rw[hb]at h5;injection h5 with h5;exact .inr (by omega)
end Go.Dw
namespace Go.Proofs.YtcemlhbfemenpaaGreatDoor
open Go Go.RowKit Go.Dw
open Go.Dwo (fcL fcN fcK fcZ fcG fcE fcD fcV fcC fcP Z00)
attribute [local go_sem ↓] Go.wp_at_zero Go.wp_at_succ
attribute [local go_sem] Go.Dwo.Oper.tame Go.Dwo.actOf List.getD_cons_zero List.getD_cons_succ
section
variable {P:Program}{md:Region.Mode}{Q:Exit→Act→World→Prop}{S:World→Prop}{fuel:Nat}{listed:Array Bool}{a:Act}{w:World}{v:Value}{l:List Oper}{oi:Oper}
theorem tkY (i:Nat)(hi:l[i]? =some oi)(hs:Region.noSelect l.toArray=true)(hf:Region.free md l.toArray listed i=true)(hr:(Region.ready md l.toArray listed).contains i=true)
  (hQ:∀c a w,Q (.panic c) (a.put oi.dst v) w→Q (.panic c) a w) (hw:Region.wanted oi (yielded l.toArray a.tmps)=true) (hy:∀w,S w→(execOp a.eval oi).run P w= .ok (.value v) w) (hS:S w)
  (h:wpAnyH P md l.toArray Q S fuel (listed.setIfInBounds i true) (a.put oi.dst v) w):wpAnyH P md l.toArray Q S (fuel+1) listed a w:=
 wpAnyH_take (i:=i) (by simpa using hi) hs hf hr hQ (Or.inl ⟨hw,hy⟩) hS h
theorem tkN (i:Nat)(hi:l[i]? =some oi)(hs:Region.noSelect l.toArray=true)(hf:Region.free md l.toArray listed i=true)(hr:(Region.ready md l.toArray listed).contains i=true)
  (hQ:∀c a w,Q (.panic c) (a.put oi.dst v) w→Q (.panic c) a w) (hw:Region.wanted oi (yielded l.toArray a.tmps)=false) (hv:v=undef) (hS:S w)
  (h:wpAnyH P md l.toArray Q S fuel (listed.setIfInBounds i true) (a.put oi.dst v) w):wpAnyH P md l.toArray Q S (fuel+1) listed a w:=
 wpAnyH_take (i:=i) (by simpa using hi) hs hf hr hQ (Or.inr ⟨hw,hv⟩) hS h
end
theorem bnt_cmp (f:Int→Rat)(a b c:Nat)(h1:(b:Int)=a+1)(h2:(c:Int)=b+1):(Z4n (f b+ -f a) (f c+ -f b) !=0)=Z3p f b:=by
 unfold Z3p;rw[show(b:Int) - 1=a by omega,←h2,Rat.sub_eq_add_neg,Rat.sub_eq_add_neg];have hz:=Z1t (f b+ -f a) (f c+ -f b);by_cases h:f b+ -f a=f c+ -f b
 · rw[hz.2 h,decide_eq_false (fun g=>g h)];rfl
 · rw[decide_eq_true h];exact bne_iff_ne.2 fun e=>h (hz.1 e)
theorem bUp_step (f:Int→Rat)(k:Nat)(hk:1≤k):bUp f (k+1)=if Z3p f k=true then bUp f k++ [(k:Int)]else bUp f k:=by
 rw[bUp];by_cases h:Z3p f k=true
 · rw[if_pos ⟨hk,h⟩,if_pos h]
 · rw[if_neg (fun g=>h g.2),if_neg h]
theorem bUp_le (f:Int→Rat):∀k,(bUp f k).length≤k
 |0=>Zh _
 |k+1=>by
  have:=bUp_le f k;rw[bUp]
  split
  · rw[Zj];simp;omega
  · omega
theorem prow_len (fq:Int→Rat)(P:List Int):(Z32 fq P).length=P.length*3:=by
 unfold Z32;rw[Z0x Pnt.cs 3 (fun _=>rfl),List.length_map]
theorem prow_one (fq:Int→Rat)(P:List Int):∀u∈Z32 fq P,u.oneCell'=true:=Zei _
theorem plr_end {w0 w5 wb w9:World}{B s:Nat}{xs:List Value}{v9:Value}{m:Nat}(hg:Gq w0 w5)(hb:Gq w5 wb)(hz:w0.heap.size=B)(h5:B≤w5.heap.size)(hown:w9.ownsRow B 61 3 v9 m xs)(hgr:wb.grownBy w9 (Value.slice (some ⟨w5.heap.size,0,none⟩) s s).ownBlock):Gq w0 w9∧w9.ownsRow B 61 3 v9 m xs:=
 ⟨Below.grown (hg.trans hb) hgr (by have:=Below.size (hg.trans hb);omega) (fun j hj=>by injection hj with hj;have h6:w5.heap.size=j:=hj;omega),hown⟩
theorem plr_fin {fq:Int→Rat}{FN:List Int}{b0:Nat}{w0:World}{q:Ending→World→Prop}(hend:∀(P:List Int) (AO:Option Addr) (cO:Nat) (W:World),P=FN→W.ownsRow b0 61 3 (.slice AO P.length cO) P.length (Z32 fq P)→Gq w0 W→q (.returned (.slice AO P.length cO)) W)
  {P:List Int} {A:Option Addr} {c:Nat} {W:World} (hf:FN=0::P) (ho:W.ownsRow b0 61 3 (.slice A (1+P.length) c) (1+P.length) ([.int .i64 0,.string (Z0n fq 0).n,.string (Z0n fq 0).d]++Z32 fq P)) (hg:Gq w0 W):q (.returned (.slice A (1+P.length) c)) W:=by
 have h:=hend (0::P) A c W hf.symm (by rw[List.length_cons,Nat.add_comm];exact ho) hg;rw[List.length_cons,Nat.add_comm]at h;exact h
def plrF (w0:World)(b off n cc ai bi ci:Nat)(x y z:Nm3)(p q r:Rat)(ri:Bool):List Go.Dwo.Fact:= [
 ⟨[],[],fun _ W=>Gq w0 W⟩,
 ⟨[0],[],fun vs _=>vs 0= .slice (some ⟨b,off,none⟩) n cc⟩,
 ⟨[1],[],fun vs _=>vs 1= .int .i64 (bi:Int)⟩,
 ⟨[2],[],fun vs _=>vs 2= .pointer (some ⟨b,off+bi*3,none⟩)⟩,
 ⟨[3],[],fun vs _=>vs 3= .agg #[.bool y.s,.slice y.a y.l y.c,.slice y.b y.m y.d]⟩,
 ⟨[4],[],fun vs _=>vs 4= .slice (some ⟨b,off,none⟩) n cc⟩,
 ⟨[5],[],fun vs _=>vs 5= .int .i64 (bi:Int)⟩,
 ⟨[6],[],fun vs _=>vs 6= .int .i64 (ai:Int)⟩,
 ⟨[7],[],fun vs _=>vs 7= .pointer (some ⟨b,off+ai*3,none⟩)⟩,
 ⟨[8],[],fun vs _=>vs 8= .agg #[.bool x.s,.slice x.a x.l x.c,.slice x.b x.m x.d]⟩,
 ⟨[9],[],fun vs W=>∃zs zA zL zc zB zM zd,vs 9= .agg #[.bool zs,.slice zA zL zc,.slice zB zM zd]∧Z0d W (.agg #[.bool zs,.slice zA zL zc,.slice zB zM zd]) (-p)⟩,
 ⟨[10],[],fun vs W=>∃zs zA zL zc zB zM zd,vs 10= .agg #[.bool zs,.slice zA zL zc,.slice zB zM zd]∧Z0d W (.agg #[.bool zs,.slice zA zL zc,.slice zB zM zd]) (q+ -p)⟩,
 ⟨[11],[],fun vs _=>vs 11= .slice (some ⟨b,off,none⟩) n cc⟩,
 ⟨[12],[],fun vs _=>vs 12= .int .i64 (bi:Int)⟩,
 ⟨[13],[],fun vs _=>vs 13= .int .i64 (ci:Int)⟩,
 ⟨[14],[],fun vs _=>vs 14= .pointer (some ⟨b,off+ci*3,none⟩)⟩,
 ⟨[15],[],fun vs _=>vs 15= .agg #[.bool z.s,.slice z.a z.l z.c,.slice z.b z.m z.d]⟩,
 ⟨[16],[],fun vs _=>vs 16= .slice (some ⟨b,off,none⟩) n cc⟩,
 ⟨[17],[],fun vs _=>vs 17= .int .i64 (bi:Int)⟩,
 ⟨[18],[],fun vs _=>vs 18= .pointer (some ⟨b,off+bi*3,none⟩)⟩,
 ⟨[19],[],fun vs _=>vs 19= .agg #[.bool y.s,.slice y.a y.l y.c,.slice y.b y.m y.d]⟩,
 ⟨[20],[],fun vs W=>∃zs zA zL zc zB zM zd,vs 20= .agg #[.bool zs,.slice zA zL zc,.slice zB zM zd]∧Z0d W (.agg #[.bool zs,.slice zA zL zc,.slice zB zM zd]) (-q)⟩,
 ⟨[21],[],fun vs W=>∃zs zA zL zc zB zM zd,vs 21= .agg #[.bool zs,.slice zA zL zc,.slice zB zM zd]∧Z0d W (.agg #[.bool zs,.slice zA zL zc,.slice zB zM zd]) (r+ -q)⟩,
 ⟨[22],[],fun vs _=>vs 22= .int .i64 (Z4n (q+ -p) (r+ -q))⟩,
 ⟨[23],[],fun vs _=>vs 23= .bool ri⟩]
theorem plrK (w0:World)(b off n cc ai bi ci:Nat)(x y z:Nm3)(p q r:Rat)(ri:Bool):∀f∈plrF w0 b off n cc ai bi ci x y z p q r ri,∀vs w w',Gq w w'→f.says vs w→f.says vs w':=
 fcL (fun _ _ _ hg h=>h.trans hg)<|fcL (fun _ _ _ _ h=>h)<|fcL (fun _ _ _ _ h=>h)<|fcL (fun _ _ _ _ h=>h)<|fcL (fun _ _ _ _ h=>h)<|fcL (fun _ _ _ _ h=>h)<|fcL (fun _ _ _ _ h=>h)<|fcL (fun _ _ _ _ h=>h)<|fcL (fun _ _ _ _ h=>h)<|fcL (fun _ _ _ _ h=>h)<|fcL (fun _ _ _ hg h=>(by obtain⟨zs,zA,zL,zc,zB,zM,zd,h1,h2⟩:=h;exact⟨zs,zA,zL,zc,zB,zM,zd,h1,Z1f.gq h2 hg⟩))<|fcL (fun _ _ _ hg h=>(by obtain⟨zs,zA,zL,zc,zB,zM,zd,h1,h2⟩:=h;exact⟨zs,zA,zL,zc,zB,zM,zd,h1,Z1f.gq h2 hg⟩))<|fcL (fun _ _ _ _ h=>h)<|fcL (fun _ _ _ _ h=>h)<|fcL (fun _ _ _ _ h=>h)<|fcL (fun _ _ _ _ h=>h)<|fcL (fun _ _ _ _ h=>h)<|fcL (fun _ _ _ _ h=>h)<|fcL (fun _ _ _ _ h=>h)<|fcL (fun _ _ _ _ h=>h)<|fcL (fun _ _ _ _ h=>h)<|fcL (fun _ _ _ hg h=>(by obtain⟨zs,zA,zL,zc,zB,zM,zd,h1,h2⟩:=h;exact⟨zs,zA,zL,zc,zB,zM,zd,h1,Z1f.gq h2 hg⟩))<|fcL (fun _ _ _ hg h=>(by obtain⟨zs,zA,zL,zc,zB,zM,zd,h1,h2⟩:=h;exact⟨zs,zA,zL,zc,zB,zM,zd,h1,Z1f.gq h2 hg⟩))<|fcL (fun _ _ _ _ h=>h)<|fcL (fun _ _ _ _ h=>h)<|fcN _
theorem Zch (A:Option Addr)(cc:Nat)(RR:List Nm3)(fq:Int→Rat)(k n:Nat)(w0:World)(hr:Rd w0 A (RR.flatMap Nm3.cs))(hq:Z6r w0 fq RR)(hlen:RR.length=n)(hn:1≤n∧n≤100000)(hlim:∀i:Nat,i<n→Z0i k (fq i))(hk:k≤100000)(hp:HasPow w0):
  Calls Tryz.prog 54 #[.slice A n cc] w0 (PlnR (Z5g fq n) w0):=by
 obtain⟨q,hqq⟩:∃q,PlnR (Z5g fq n) w0=q:=⟨_,rfl⟩;obtain⟨b0,hb0⟩:∃b,w0.heap.size=b:=⟨_,rfl⟩;have HZ0:Hid (w0.heap.size=b0):=hb0;obtain⟨b,off,rfl,hbb,hcs⟩:=Rd.at_ hr (by rw[Z0x Nm3.cs 3 (fun _=>rfl)];omega);obtain⟨X,hX⟩:∃X:Nat→Nm3,∀i (hi:i<RR.length),RR[i]=X i:=⟨fun i=>RR.getD i ⟨false,none,0,0,none,0,0⟩,fun i hi=>by simp[List.getD,List.getElem?_eq_getElem hi]⟩
 have HXC:Hid (∀i,i<n→∀W,Gq w0 W→(W.cell? ⟨b,off+i*3,none⟩=some (.bool (X i).s)∧W.cell? ⟨b,off+i*3+1,none⟩=some (.slice (X i).a (X i).l (X i).c)∧W.cell? ⟨b,off+i*3+2,none⟩=some (.slice (X i).b (X i).m (X i).d))∧Z0d W (.agg #[.bool (X i).s,.slice (X i).a (X i).l (X i).c,.slice (X i).b (X i).m (X i).d]) (fq i)):=fun i hi W hW=>by
  have hi2:i<RR.length:=by omega
  obtain⟨b',off',e,hb',hcs'⟩:=Rd.at_ (hr.below hW) (by rw[Z0x Nm3.cs 3 (fun _=>rfl)];omega);injection e with e;injection e with e1 e2 _;subst e1;subst e2;have hg:∀m,m<3→(RR.flatMap Nm3.cs)[i*3+m]? =(RR[i].cs)[m]? :=fun m hm=>flat_get Nm3.cs 3 (fun _=>rfl) RR i m hi2 hm;refine⟨⟨?_, ?_, ?_⟩, ?_⟩
  · have:=hcs' (i*3) (.bool (X i).s) (by have:=hg 0 (by omega);rw[←hX i hi2];simpa [Nm3.cs]using this);exact this
  · have:=hcs' (i*3+1) (.slice (X i).a (X i).l (X i).c) (by have:=hg 1 (by omega);rw[←hX i hi2];simpa [Nm3.cs]using this);rw[Nat.add_assoc];exact this
  · have:=hcs' (i*3+2) (.slice (X i).b (X i).m (X i).d) (by have:=hg 2 (by omega);rw[←hX i hi2];simpa [Nm3.cs]using this);rw[Nat.add_assoc];exact this
  · have:=(hq.gq hW) i hi2;rw[hX i hi2]at this;exact this
 have HLI:Hid ((∀i:Nat,i<n→Z0i k (fq i))∧k≤100000):=⟨hlim,hk⟩
 have HOU:Hid (∀i:Nat,i<n→∀W,Gq w0 W→Calls Tryz.prog 94 #[.agg #[.bool (X i).s,.slice (X i).a (X i).l (X i).c,.slice (X i).b (X i).m (X i).d]] W fun e w'=>e= .returned (.agg #[.string (Z0n fq (i:Nat)).n,.string (Z0n fq (i:Nat)).d])∧Gq W w'):=fun i hi W hW=>
  outQ_any _ _ W (HXC.o i hi W hW).2 k (hlim i hi) hk (hp.below hW)
 have HCQ:Hid (∀i j:Nat,i<n→j<n→∀W,Gq w0 W→Calls Tryz.prog 93 #[.agg #[.bool (X i).s,.slice (X i).a (X i).l (X i).c,.slice (X i).b (X i).m (X i).d],.agg #[.bool (X j).s,.slice (X j).a (X j).l (X j).c,.slice (X j).b (X j).m (X j).d]] W fun e w'=>e= .returned (.int .i64 (Z4n (fq i) (fq j)))∧Gq W w'):=fun i j hi hj W hW=>
  Z52 _ _ _ _ W (HXC.o i hi W hW).2 (HXC.o j hj W hW).2 k (hlim i hi) (hlim j hj) (by omega)
 obtain⟨n1,hn1⟩:∃n1,n=n1+1:=⟨n - 1,by omega⟩;have HN:Hid (n=n1+1∧n≤100000):=⟨hn1,hn.2⟩;obtain⟨FN,hFN⟩:∃FN,Z69 fq n=FN:=⟨_,rfl⟩;have HFN:Hid (orZero (hdQ fq n++bUp fq n1++tlQ fq n)=FN):=by rw[←hFN,hn1];rfl
 have HEND:Hid (∀(P:List Int) (AO:Option Addr) (cO:Nat) (W:World),P=FN→W.ownsRow b0 61 3 (.slice AO P.length cO) P.length (Z32 fq P)→Gq w0 W→q (.returned (.slice AO P.length cO)) W):=fun P AO cO W hO ho hW=>by
  rw[←hqq];have e1:Z5g fq n=P.map (Z0n fq):=by unfold Z5g;rw[hFN,hO]
  refine⟨hW,AO,cO, ?_, ?_⟩
  · rw[e1,List.length_map]
  · rw[e1,List.length_map,hb0];exact ho
 obtain⟨ii,hii,hzi0,hzi1,hzi2⟩:=info_parts Zf1;have HII:=Za (And.intro hii (And.intro hzi0 (And.intro hzi1 hzi2)));have hwn:IntKind.i64.wrap ((n:Int) - 1)=(n1:Int):=by rw[show(n:Int) - 1=(n1:Int) by omega];exact IntWalk.i64_in _ (by omega)
 have hnl:n≤100000:=hn.2;rw[hqq];clear hqq hb0 hr hq hlen hn hlim hk hp hbb hcs hX hn1 hFN hii hzi0 hzi1 hzi2;go_enter Tryz.func54,Tryz.ntmps54;go_wp2_with fail
 go_loopw [4,5] (fun ov iv wq=>∃(i:Nat) (O:List Int) (AO:Option Addr) (cO:Nat),1≤i∧(i≤n1∨i=1)∧iv= .int .i64 (i:Int)∧ov= .slice AO O.length cO∧Hid (O=bUp fq i)∧Hid (wq.ownsRow b0 61 3 (.slice AO O.length cO) O.length (Z32 fq O)∧Gq w0 wq)) (fun _ iv _=>n - (intOf iv).toNat)
 case atStart=>exact⟨1,[],none,0,Zh _,.inr rfl,rfl,rfl,rfl,World.ownsRow_nil _ _ _ _,Gq.refl _⟩
 case round=>
  obtain⟨bi,O,AO,cO,hb1,hb2,rfl,rfl,HO,HW⟩:=hrel;have hol:O.length≤100000:=by have h1:=bUp_le fq bi;have h2:=HN.o;rw[HO.o];omega
  by_cases hlt:bi<n1
  case neg=>
   have hd0:decide (bi<n1)=false:=by simpa using hlt
   have HO1:Hid (O=bUp fq n1):=by
    rcases Nat.lt_or_ge n1 bi with h|h
    · have e1:bi=1:=(by omega);have e2:n1=0:=(by omega);have h3:=HO.o;rw[e1]at h3;rw[e2];exact h3
    · have e1:bi=n1:=(by omega);have h3:=HO.o;rw[e1]at h3;exact h3
   have HW1:=Za HW.o;clear hlt hb1 hb2 HO HW;go_upto_region 8 with(fail);obtain⟨wE,hwE⟩:∃x,x=wr:=⟨_,rfl⟩;subst hwE;have HGE:Hid (Gq w0 wE):=HW1.o.2
   go_cut [63] (fun v63 wx=>∃rj:Bool,v63= .bool rj∧Hid (tlQ fq n=if rj=true then [(n1:Int)]else [])∧Hid (Gq wE wx))
   case first=>
    by_cases h0:n1=0
    ·
     have e1:n=1:=(by have:=HN.o;omega);have HTL:Hid (tlQ fq n=if false=true then [(n1:Int)]else []):=(by show _=_;unfold tlQ;rw[if_neg (fun g=>by omega)];rfl);have hcut0:Gq wE wE.drew:=(Gq.refl _).drew;clear h0;subst e1;refine wp_region_held_drew (S:=fun W=>Gq wE W) (by kernel_rfl) hcut0 (fun hHeld=> ?_);refine tkY 0 (v:= ?_) rfl (by kernel_rfl) (by kernel_rfl) (by kernel_rfl) (fun _ _ _ h=>h) (by rfl) ?_ (by assumption) ?_
     rotate_left
     · (intro wS hSw; (try dsimp only at hSw);go_simp;try(with_reducible rfl))
     (try simp only[Act.put,Zb,Zc,Zd]);refine tkY 1 (v:= ?_) rfl (by kernel_rfl) (by kernel_rfl) (by kernel_rfl) (fun _ _ _ h=>h) (by rfl) ?_ (by assumption) ?_
     rotate_left
     · (intro wS hSw; (try dsimp only at hSw);go_simp;try(with_reducible rfl))
     (try simp only[Act.put,Zb,Zc,Zd]);refine tkY 2 (v:= ?_) rfl (by kernel_rfl) (by kernel_rfl) (by kernel_rfl) (fun _ _ _ h=>h) (by rfl) ?_ (by assumption) ?_
     rotate_left
     · (intro wS hSw; (try dsimp only at hSw);go_simp;try(with_reducible rfl))
     (try simp only[Act.put,Zb,Zc,Zd]);refine tkN 3 rfl (by kernel_rfl) (by kernel_rfl) (by kernel_rfl) (fun _ _ _ h=>h) (by rfl) rfl (by assumption) ?_;(try simp only[Act.put,Zb,Zc,Zd]);refine tkN 4 rfl (by kernel_rfl) (by kernel_rfl) (by kernel_rfl) (fun _ _ _ h=>h) (by rfl) rfl (by assumption) ?_;(try simp only[Act.put,Zb,Zc,Zd]);refine tkN 5 rfl (by kernel_rfl) (by kernel_rfl) (by kernel_rfl) (fun _ _ _ h=>h) (by rfl) rfl (by assumption) ?_;(try simp only[Act.put,Zb,Zc,Zd]);refine tkN 6 rfl (by kernel_rfl) (by kernel_rfl) (by kernel_rfl) (fun _ _ _ h=>h) (by rfl) rfl (by assumption) ?_;(try simp only[Act.put,Zb,Zc,Zd]);refine tkN 7 rfl (by kernel_rfl) (by kernel_rfl) (by kernel_rfl) (fun _ _ _ h=>h) (by rfl) rfl (by assumption) ?_;(try simp only[Act.put,Zb,Zc,Zd]);refine tkN 8 rfl (by kernel_rfl) (by kernel_rfl) (by kernel_rfl) (fun _ _ _ h=>h) (by rfl) rfl (by assumption) ?_;(try simp only[Act.put,Zb,Zc,Zd]);refine tkN 9 rfl (by kernel_rfl) (by kernel_rfl) (by kernel_rfl) (fun _ _ _ h=>h) (by rfl) rfl (by assumption) ?_;(try simp only[Act.put,Zb,Zc,Zd]);refine tkN 10 rfl (by kernel_rfl) (by kernel_rfl) (by kernel_rfl) (fun _ _ _ h=>h) (by rfl) rfl (by assumption) ?_;(try simp only[Act.put,Zb,Zc,Zd]);refine tkN 11 rfl (by kernel_rfl) (by kernel_rfl) (by kernel_rfl) (fun _ _ _ h=>h) (by rfl) rfl (by assumption) ?_;(try simp only[Act.put,Zb,Zc,Zd]);refine tkN 12 rfl (by kernel_rfl) (by kernel_rfl) (by kernel_rfl) (fun _ _ _ h=>h) (by rfl) rfl (by assumption) ?_;(try simp only[Act.put,Zb,Zc,Zd]);refine tkN 13 rfl (by kernel_rfl) (by kernel_rfl) (by kernel_rfl) (fun _ _ _ h=>h) (by rfl) rfl (by assumption) ?_;(try simp only[Act.put,Zb,Zc,Zd]);refine tkN 14 rfl (by kernel_rfl) (by kernel_rfl) (by kernel_rfl) (fun _ _ _ h=>h) (by rfl) rfl (by assumption) ?_;(try simp only[Act.put,Zb,Zc,Zd]);refine tkY 15 (v:= ?_) rfl (by kernel_rfl) (by kernel_rfl) (by kernel_rfl) (fun _ _ _ h=>h) (by rfl) ?_ (by assumption) ?_
     rotate_left
     · (intro wS hSw; (try dsimp only at hSw);go_simp;try(with_reducible rfl))
     (try simp only[Act.put,Zb,Zc,Zd]);refine wpAnyH_done (by kernel_rfl) ?_ _;go_wp2_with fail;go_meet
     case rel=>exact⟨_,rfl,HTL.o,hcut0⟩
    ·
     obtain⟨n2,hn2⟩:∃n2,n1=n2+1:=⟨n1 - 1,by omega⟩;have hda:decide (1<n)=true:=(by have:=HN.o;simp;omega);have hdb:decide ((1:Int)<(n:Int))=true:=(by have:=HN.o;rw[decide_eq_true_iff];omega);have hw2:IntKind.i64.wrap ((n:Int) - 2)=(n2:Int):=(by rw[show(n:Int) - 2=(n2:Int) by have:=HN.o;omega];exact IntWalk.i64_in _ (by have:=HN.o;omega));have i0:(0:Int)≤(n1:Int):=(by omega);have i1:(n1:Int)<(n:Int):=(by have:=HN.o;omega);have i2:(0:Int)≤(n2:Int):=(by omega);have i3:(n2:Int)<(n:Int):=(by have:=HN.o;omega);obtain⟨c0,hc0⟩:∃c0,Z4n (fq (n1:Int)) (fq (n2:Int))=c0:=⟨_,rfl⟩;obtain⟨rj,hrj⟩:∃r,(c0 !=0)=r:=⟨_,rfl⟩
     have HTL:Hid (tlQ fq n=if rj=true then [(n1:Int)]else []):=by
      have hz:=Z1t (fq (n1:Int)) (fq (n2:Int));show _=_;unfold tlQ;have hN:=HN.o;rw[show(n:Int) - 1=(n1:Int) by omega,show(n:Int) - 2=(n2:Int) by omega];rw[hc0]at hz;cases rj with
      |true=>rw[if_pos ⟨by omega,fun e=>by rw[hz.2 e]at hrj;cases hrj⟩];rfl
      |false=>rw[if_neg (fun g=>g.2 (hz.1 (by simpa using hrj)))];rfl
     have HS:Hid (∀W,Gq wE W→(W.cell? ⟨b,off+n1*3,none⟩=some (.bool (X n1).s)∧W.cell? ⟨b,off+n1*3+1,none⟩=some (.slice (X n1).a (X n1).l (X n1).c)∧W.cell? ⟨b,off+n1*3+2,none⟩=some (.slice (X n1).b (X n1).m (X n1).d))∧(W.cell? ⟨b,off+n2*3,none⟩=some (.bool (X n2).s)∧W.cell? ⟨b,off+n2*3+1,none⟩=some (.slice (X n2).a (X n2).l (X n2).c)∧W.cell? ⟨b,off+n2*3+2,none⟩=some (.slice (X n2).b (X n2).m (X n2).d))∧Gq wE W):=fun W hW=>⟨(HXC.o n1 (by have:=HN.o;omega) W (HGE.o.trans hW)).1,(HXC.o n2 (by have:=HN.o;omega) W (HGE.o.trans hW)).1,hW⟩;have HCM:Hid (∀W,Gq wE W→Calls Tryz.prog 93 #[.agg #[.bool (X n1).s,.slice (X n1).a (X n1).l (X n1).c,.slice (X n1).b (X n1).m (X n1).d],.agg #[.bool (X n2).s,.slice (X n2).a (X n2).l (X n2).c,.slice (X n2).b (X n2).m (X n2).d]] W fun e w'=>e= .returned (.int .i64 c0)∧Gq wE w'):=fun W hW=>(by have:=HCQ.o n1 n2 (by have:=HN.o;omega) (by have:=HN.o;omega) W (HGE.o.trans hW);rw[hc0]at this;exact this.mono fun e w' ⟨h1,h2⟩=>⟨h1,hW.trans h2⟩);have hcut0:Gq wE wE.drew:=(Gq.refl _).drew;clear h0 hn2 hc0;refine wp_region_held_drew (S:=fun W=>(W.cell? ⟨b,off+n1*3,none⟩=some (.bool (X n1).s)∧W.cell? ⟨b,off+n1*3+1,none⟩=some (.slice (X n1).a (X n1).l (X n1).c)∧W.cell? ⟨b,off+n1*3+2,none⟩=some (.slice (X n1).b (X n1).m (X n1).d))∧(W.cell? ⟨b,off+n2*3,none⟩=some (.bool (X n2).s)∧W.cell? ⟨b,off+n2*3+1,none⟩=some (.slice (X n2).a (X n2).l (X n2).c)∧W.cell? ⟨b,off+n2*3+2,none⟩=some (.slice (X n2).b (X n2).m (X n2).d))∧Gq wE W) (by kernel_rfl) (HS.o _ hcut0) (fun hHeld=> ?_);refine tkY 0 (v:= ?_) rfl (by kernel_rfl) (by kernel_rfl) (by kernel_rfl) (fun _ _ _ h=>h) (by rfl) ?_ (by assumption) ?_
     rotate_left
     · (intro wS hSw; (try dsimp only at hSw);go_simp;try(with_reducible rfl))
     (try simp only[Act.put,Zb,Zc,Zd]);refine tkY 1 (v:= ?_) rfl (by kernel_rfl) (by kernel_rfl) (by kernel_rfl) (fun _ _ _ h=>h) (by rfl) ?_ (by assumption) ?_
     rotate_left
     · (intro wS hSw; (try dsimp only at hSw);go_simp;try(with_reducible rfl))
     (try simp only[Act.put,Zb,Zc,Zd]);refine tkY 2 (v:= ?_) rfl (by kernel_rfl) (by kernel_rfl) (by kernel_rfl) (fun _ _ _ h=>h) (by rfl) ?_ (by assumption) ?_
     rotate_left
     · (intro wS hSw; (try dsimp only at hSw);go_simp;try(with_reducible rfl))
     (try simp only[Act.put,Zb,Zc,Zd]);refine tkY 3 (v:= ?_) rfl (by kernel_rfl) (by kernel_rfl) (by kernel_rfl) (fun _ _ _ h=>h) (by rfl) ?_ (by assumption) ?_
     rotate_left
     · (intro wS hSw; (try dsimp only at hSw);go_simp;try(with_reducible rfl))
     (try simp only[Act.put,Zb,Zc,Zd]);refine tkY 4 (v:= ?_) rfl (by kernel_rfl) (by kernel_rfl) (by kernel_rfl) (fun _ _ _ h=>h) (by rfl) ?_ (by assumption) ?_
     rotate_left
     · (intro wS hSw; (try dsimp only at hSw);go_simp;try(with_reducible rfl))
     (try simp only[Act.put,Zb,Zc,Zd]);refine tkY 5 (v:= ?_) rfl (by kernel_rfl) (by kernel_rfl) (by kernel_rfl) (fun _ _ _ h=>h) (by rfl) ?_ (by assumption) ?_
     rotate_left
     · (intro wS hSw; (try dsimp only at hSw);go_simp;try(with_reducible rfl))
     (try simp only[Act.put,Zb,Zc,Zd]);refine tkY 6 (v:= ?_) rfl (by kernel_rfl) (by kernel_rfl) (by kernel_rfl) (fun _ _ _ h=>h) (by rfl) ?_ (by assumption) ?_
     rotate_left
     · (intro wS hSw; (try dsimp only at hSw);go_simp;try(with_reducible rfl))
     (try simp only[Act.put,Zb,Zc,Zd]);refine tkY 7 (v:= ?_) rfl (by kernel_rfl) (by kernel_rfl) (by kernel_rfl) (fun _ _ _ h=>h) (by rfl) ?_ (by assumption) ?_
     rotate_left
     · (intro wS hSw; (try dsimp only at hSw);go_simp;try(with_reducible rfl))
     (try simp only[Act.put,Zb,Zc,Zd]);refine tkY 8 (v:= ?_) rfl (by kernel_rfl) (by kernel_rfl) (by kernel_rfl) (fun _ _ _ h=>h) (by rfl) ?_ (by assumption) ?_
     rotate_left
     · (intro wS hSw; (try dsimp only at hSw);go_simp;try(with_reducible rfl))
     (try simp only[Act.put,Zb,Zc,Zd]);refine tkY 9 (v:= ?_) rfl (by kernel_rfl) (by kernel_rfl) (by kernel_rfl) (fun _ _ _ h=>h) (by rfl) ?_ (by assumption) ?_
     rotate_left
     · (intro wS hSw; (try dsimp only at hSw);go_simp;try(with_reducible rfl))
     (try simp only[Act.put,Zb,Zc,Zd]);refine tkY 10 (v:= ?_) rfl (by kernel_rfl) (by kernel_rfl) (by kernel_rfl) (fun _ _ _ h=>h) (by rfl) ?_ (by assumption) ?_
     rotate_left
     · (intro wS hSw; (try dsimp only at hSw);go_simp;try(with_reducible rfl))
     (try simp only[Act.put,Zb,Zc,Zd]);refine tkY 11 (v:= ?_) rfl (by kernel_rfl) (by kernel_rfl) (by kernel_rfl) (fun _ _ _ h=>h) (by rfl) ?_ (by assumption) ?_
     rotate_left
     · (intro wS hSw; (try dsimp only at hSw);go_simp;try(with_reducible rfl))
     (try simp only[Act.put,Zb,Zc,Zd]);refine tkY 12 (v:= ?_) rfl (by kernel_rfl) (by kernel_rfl) (by kernel_rfl) (fun _ _ _ h=>h) (by rfl) ?_ (by assumption) ?_
     rotate_left
     · (intro wS hSw; (try dsimp only at hSw);go_simp;try(with_reducible rfl))
     (try simp only[Act.put,Zb,Zc,Zd]);refine wpAnyH_ready (rs:= [13]) (by kernel_rfl) (by simp) ?_;refine AllReadyH.cons (o:= {dst:=some 61,op:=Go.Op.call {callee:=Go.Callee.value (Go.Operand.func 93),args:= #[Go.Operand.tmp 55,Go.Operand.tmp 60],argTypes:= #[85,85]},type:=3,pos:= "edit.go:153",after:= #[{on:=7,ground:=Go.Ground.data}, {on:=12,ground:=Go.Ground.data}, {on:=2,ground:=Go.Ground.chain}, {on:=2,ground:=Go.Ground.guard}],guard:=some (2,true)}) rfl (fun K hK=> ?_) AllReadyH.nil;go_simp;(with_reducible refine(HCM.o _ hcut0).mono ?_);rintro e wB ⟨rfl,hqB⟩;go_wp2_with fail;refine hK.out _ _ (HS.o _ hqB) (fun hHeld=> ?_);clear hK K;(try simp only[Act.put,Zb,Zc,Zd]);refine tkY 14 (v:= ?_) rfl (by kernel_rfl) (by kernel_rfl) (by kernel_rfl) (fun _ _ _ h=>h) (by rfl) ?_ (by assumption) ?_
     rotate_left
     · (intro wS hSw; (try dsimp only at hSw);go_simp;try(with_reducible rfl))
     (try simp only[Act.put,Zb,Zc,Zd]);refine tkY 15 (v:= ?_) rfl (by kernel_rfl) (by kernel_rfl) (by kernel_rfl) (fun _ _ _ h=>h) (by rfl) ?_ (by assumption) ?_
     rotate_left
     · (intro wS hSw; (try dsimp only at hSw);go_simp;try(with_reducible rfl))
     (try simp only[Act.put,Zb,Zc,Zd]);refine wpAnyH_done (by kernel_rfl) ?_ _;go_wp2_with fail;go_meet
     case rel=>exact⟨_,rfl,HTL.o,hqB⟩
   case rest=>
    obtain⟨rj,rfl,HTJ,HGD⟩:=hcut;obtain⟨wF,hwF⟩:∃x,x=wc:=⟨_,rfl⟩;subst hwF;have HGF:Hid (Gq w0 wF):=HGE.o.trans HGD.o;have HOF:Hid (wF.ownsRow b0 61 3 (.slice AO O.length cO) O.length (Z32 fq O)):=Z04 HW1.o.1 HGD.o;clear HW1 HGE HGD
    go_upto_if 63 with(fail)
    go_cut [4] (fun v4 wx=>∃(P:List Int) (AP:Option Addr) (cP:Nat),v4= .slice AP P.length cP∧Hid (P=bUp fq n1++tlQ fq n∧P.length≤100001)∧Hid (wx.ownsRow b0 61 3 (.slice AP P.length cP) P.length (Z32 fq P)∧Gq w0 wx))
    case first=>
     cases rj with
     |false=>
      go_wp2_with fail;go_meet
      case rel=>exact⟨O,AO,cO,rfl,⟨by rw[HTJ.o,HO1.o];simp,by omega⟩,HOF.o,HGF.o⟩
     |true=>
     obtain⟨⟨d0,d1,d2⟩, -⟩:=HXC.o n1 (by have:=HN.o;omega) wF HGF.o;have i0:(0:Int)≤(n1:Int):=(by omega);have i1:(n1:Int)<(n:Int):=(by have:=HN.o;omega);have hbn:n1<n:=(by have:=HN.o;omega);go_wp2_with fail;refine(HOU.o n1 (by omega) wF HGF.o).mono ?_;rintro e w5 ⟨rfl,hg5⟩;have HG9:Hid (Gq w0 w5):=HGF.o.trans hg5;have HG5:Hid (Gq wF w5):=hg5;have HZ9:Hid (b0≤w5.heap.size):=(by have h1:=Below.size HG9.o;have h2:=HZ0.o;show _≤_;omega);have hrun:=run_build (P:=Tryz.prog) w5 61 _ _ (Z7n (n1:Int) (Z0n fq (n1:Nat)).n (Z0n fq (n1:Nat)).d);clear hg5;clear d0 d1 d2;have HO5:=Za (Z04 HOF.o HG5.o);go_wp2_with (at_builtin; (refine wpList_append_own _ rfl _ _ 37 rfl b0 61 ii _ 3 40 Tryz.underlying37 HII.o.1 HII.o.2.1 HII.o.2.2.1 HII.o.2.2.2 rfl (by decide) (.slice AO O.length cO) O.length (Z32 fq O) rfl (HO5.o.alloc _) ⟨w5.heap.size,0,none⟩ 1 1 [.int .i64 ((n1:Int)),.string (Z0n fq ((n1:Int))).n,.string (Z0n fq ((n1:Int))).d] (by rfl) (by rfl) (World.news_of_block (cs:= #[.int .i64 ((n1:Int)),.string (Z0n fq ((n1:Int))).n,.string (Z0n fq ((n1:Int))).d]) (t:=61) (fr:=(0,0)) (by exact heap_alloc_new w5 _)) (by simp[Value.oneCell']) (by unfold maxLen;omega) (by omega) (by have:=HZ9.o;simp;omega) ?_);intro v9 w9 hown9 hgrow9 _;have hend:=Z3y HG9.o HZ0.o HO5.o hown9 hgrow9;obtain⟨A9,c9,rfl⟩:=Z08 hown9;have HE9:=Za hend;clear hend hown9 hgrow9);go_meet
     case rel=>exact⟨O++ [(n1:Int)],A9,c9,by rw[Zj];rfl,⟨by rw[HTJ.o,HO1.o];rfl,by rw[Zj];simp;omega⟩,Z65 HE9.o.2.1,HE9.o.1⟩
    case rest=>
     obtain⟨P,AP,cP,rfl,HPE,HPW⟩:=hcut;obtain⟨wE,hwE⟩:∃x,x=wc:=⟨_,rfl⟩;subst hwE;have HGE:Hid (Gq w0 wE):=HPW.o.2;have HPL:Hid (P.length≤100001):=HPE.o.2;clear HO1 HTJ HOF HGF hol;go_upto_region 10 with(fail)
     go_cut [92] (fun v92 wx=>∃rh:Bool,v92= .bool rh∧Hid (FN=if rh=true then 0::P else P)∧Hid (Gq wE wx))
     case first=>
      have hcut0:Gq wE wE.drew:=(Gq.refl _).drew;obtain⟨rz,hrz⟩:∃r,((P.length:Int)==0)=r:=⟨_,rfl⟩
      have hrz2:(P.length==0)=rz:=by
       rw[←hrz];by_cases e:P.length=0
       · rw[e];rfl
       · rw[beq_eq_false_iff_ne.2 e];exact(beq_eq_false_iff_ne.2 (by omega)).symm
      have HRZ:Hid (hdQ fq n= []→FN=if rz=true then 0::P else P):=fun hh=>by
       rw[←HFN.o,hh,List.nil_append,←HPE.o.1];unfold orZero;cases rz with
       |true=>
        have e:P= []:=Zk (by simpa using hrz2);rw[e];rfl
       |false=>rw[if_neg (fun e=>by rw[e]at hrz2;cases hrz2)];rfl
      by_cases h0:n1=0
      ·
       have e1:n=1:=(by have:=HN.o;omega);have HFF:Hid (FN=if rz=true then 0::P else P):=HRZ.o (by unfold hdQ;rw[if_neg (fun g=>by omega)]);clear h0;subst e1;refine wp_region_held_drew (S:=fun W=>Gq wE W) (by kernel_rfl) hcut0 (fun hHeld=> ?_);refine tkY 0 (v:= ?_) rfl (by kernel_rfl) (by kernel_rfl) (by kernel_rfl) (fun _ _ _ h=>h) (by rfl) ?_ (by assumption) ?_
       rotate_left
       · (intro wS hSw; (try dsimp only at hSw);go_simp;try(with_reducible rfl))
       (try simp only[Act.put,Zb,Zc,Zd]);refine tkY 1 (v:= ?_) rfl (by kernel_rfl) (by kernel_rfl) (by kernel_rfl) (fun _ _ _ h=>h) (by rfl) ?_ (by assumption) ?_
       rotate_left
       · (intro wS hSw; (try dsimp only at hSw);go_simp;try(with_reducible rfl))
       (try simp only[Act.put,Zb,Zc,Zd]);refine tkY 2 (v:= ?_) rfl (by kernel_rfl) (by kernel_rfl) (by kernel_rfl) (fun _ _ _ h=>h) (by rfl) ?_ (by assumption) ?_
       rotate_left
       · (intro wS hSw; (try dsimp only at hSw);go_simp;try(with_reducible rfl))
       (try simp only[Act.put,Zb,Zc,Zd]);refine tkN 3 rfl (by kernel_rfl) (by kernel_rfl) (by kernel_rfl) (fun _ _ _ h=>h) (by rfl) rfl (by assumption) ?_;(try simp only[Act.put,Zb,Zc,Zd]);refine tkN 4 rfl (by kernel_rfl) (by kernel_rfl) (by kernel_rfl) (fun _ _ _ h=>h) (by rfl) rfl (by assumption) ?_;(try simp only[Act.put,Zb,Zc,Zd]);refine tkN 5 rfl (by kernel_rfl) (by kernel_rfl) (by kernel_rfl) (fun _ _ _ h=>h) (by rfl) rfl (by assumption) ?_;(try simp only[Act.put,Zb,Zc,Zd]);refine tkN 6 rfl (by kernel_rfl) (by kernel_rfl) (by kernel_rfl) (fun _ _ _ h=>h) (by rfl) rfl (by assumption) ?_;(try simp only[Act.put,Zb,Zc,Zd]);refine tkN 7 rfl (by kernel_rfl) (by kernel_rfl) (by kernel_rfl) (fun _ _ _ h=>h) (by rfl) rfl (by assumption) ?_;(try simp only[Act.put,Zb,Zc,Zd]);refine tkN 8 rfl (by kernel_rfl) (by kernel_rfl) (by kernel_rfl) (fun _ _ _ h=>h) (by rfl) rfl (by assumption) ?_;(try simp only[Act.put,Zb,Zc,Zd]);refine tkN 9 rfl (by kernel_rfl) (by kernel_rfl) (by kernel_rfl) (fun _ _ _ h=>h) (by rfl) rfl (by assumption) ?_;(try simp only[Act.put,Zb,Zc,Zd]);refine tkN 10 rfl (by kernel_rfl) (by kernel_rfl) (by kernel_rfl) (fun _ _ _ h=>h) (by rfl) rfl (by assumption) ?_;(try simp only[Act.put,Zb,Zc,Zd]);refine tkY 11 (v:= ?_) rfl (by kernel_rfl) (by kernel_rfl) (by kernel_rfl) (fun _ _ _ h=>h) (by rfl) ?_ (by assumption) ?_
       rotate_left
       · (intro wS hSw; (try dsimp only at hSw);go_simp;try(with_reducible rfl))
       (try simp only[Act.put,Zb,Zc,Zd]);refine tkY 12 (v:= ?_) rfl (by kernel_rfl) (by kernel_rfl) (by kernel_rfl) (fun _ _ _ h=>h) (by rfl) ?_ (by assumption) ?_
       rotate_left
       · (intro wS hSw; (try dsimp only at hSw);go_simp;try(with_reducible rfl))
       (try simp only[Act.put,Zb,Zc,Zd]);refine tkY 13 (v:= ?_) rfl (by kernel_rfl) (by kernel_rfl) (by kernel_rfl) (fun _ _ _ h=>h) (by rfl) ?_ (by assumption) ?_
       rotate_left
       · (intro wS hSw; (try dsimp only at hSw);go_simp;try(with_reducible rfl))
       (try simp only[Act.put,Zb,Zc,Zd]);refine tkY 14 (v:= ?_) rfl (by kernel_rfl) (by kernel_rfl) (by kernel_rfl) (fun _ _ _ h=>h) (by rfl) ?_ (by assumption) ?_
       rotate_left
       · (intro wS hSw; (try dsimp only at hSw);go_simp;try(with_reducible rfl))
       (try simp only[Act.put,Zb,Zc,Zd]);refine tkY 15 (v:= ?_) rfl (by kernel_rfl) (by kernel_rfl) (by kernel_rfl) (fun _ _ _ h=>h) (by rfl) ?_ (by assumption) ?_
       rotate_left
       · (intro wS hSw; (try dsimp only at hSw);go_simp;try(with_reducible rfl))
       (try simp only[Act.put,Zb,Zc,Zd]);refine tkY 16 (v:= ?_) rfl (by kernel_rfl) (by kernel_rfl) (by kernel_rfl) (fun _ _ _ h=>h) (by rfl) ?_ (by assumption) ?_
       rotate_left
       · (intro wS hSw; (try dsimp only at hSw);go_simp;try(with_reducible rfl))
       (try simp only[Act.put,Zb,Zc,Zd]);refine wpAnyH_done (by kernel_rfl) ?_ _;go_wp2_with fail;go_meet
       case rel=>exact⟨_,rfl,HFF.o,hcut0⟩
      ·
       have hda:decide (1<n)=true:=(by have:=HN.o;simp;omega);have hdb:decide ((1:Int)<(n:Int))=true:=(by have:=HN.o;rw[decide_eq_true_iff];omega);have i0:(0:Int)<(n:Int):=(by have:=HN.o;omega);have i1:(1:Int)<(n:Int):=(by have:=HN.o;omega);have j0:0<n:=(by have:=HN.o;omega);have j1:1<n:=(by have:=HN.o;omega);obtain⟨c0,hc0⟩:∃c0,Z4n (fq 0) (fq 1)=c0:=⟨_,rfl⟩;obtain⟨rj,hrj⟩:∃r,(c0 !=0)=r:=⟨_,rfl⟩;have HS:Hid (∀W,Gq wE W→(W.cell? ⟨b,off,none⟩=some (.bool (X 0).s)∧W.cell? ⟨b,off+1,none⟩=some (.slice (X 0).a (X 0).l (X 0).c)∧W.cell? ⟨b,off+2,none⟩=some (.slice (X 0).b (X 0).m (X 0).d))∧(W.cell? ⟨b,off+3,none⟩=some (.bool (X 1).s)∧W.cell? ⟨b,off+3+1,none⟩=some (.slice (X 1).a (X 1).l (X 1).c)∧W.cell? ⟨b,off+3+2,none⟩=some (.slice (X 1).b (X 1).m (X 1).d))∧Gq wE W):=fun W hW=>(by have h0:=(HXC.o 0 (by have:=HN.o;omega) W (HGE.o.trans hW)).1;have h1:=(HXC.o 1 (by have:=HN.o;omega) W (HGE.o.trans hW)).1;simp only[Nat.zero_mul,Nat.one_mul,Nat.add_zero]at h0 h1;exact⟨h0,h1,hW⟩);have HCM:Hid (∀W,Gq wE W→Calls Tryz.prog 93 #[.agg #[.bool (X 0).s,.slice (X 0).a (X 0).l (X 0).c,.slice (X 0).b (X 0).m (X 0).d],.agg #[.bool (X 1).s,.slice (X 1).a (X 1).l (X 1).c,.slice (X 1).b (X 1).m (X 1).d]] W fun e w'=>e= .returned (.int .i64 c0)∧Gq wE w'):=fun W hW=>(by have:=HCQ.o 0 1 (by have:=HN.o;omega) (by have:=HN.o;omega) W (HGE.o.trans hW);rw[show((0:Nat):Int)=0 by rfl,show((1:Nat):Int)=1 by rfl,hc0]at this;exact this.mono fun e w' ⟨h1,h2⟩=>⟨h1,hW.trans h2⟩);have hz:c0=0↔fq 0=fq 1:=(by rw[←hc0];exact Z1t _ _);by_cases hrt:rj=true
       ·
        have HFT:Hid (FN=if true=true then 0::P else P):=(by have hh:hdQ fq n= [0]:=(by unfold hdQ;rw[if_pos ⟨by have:=HN.o;omega,fun e=>by rw[hz.2 e,hrt]at hrj;cases hrj⟩]);show _=_;rw[←HFN.o,hh,List.append_assoc,←HPE.o.1];rfl);have HRT:=Za hrt;clear h0 hc0 hz hrt;refine wp_region_held_drew (S:=fun W=>(W.cell? ⟨b,off,none⟩=some (.bool (X 0).s)∧W.cell? ⟨b,off+1,none⟩=some (.slice (X 0).a (X 0).l (X 0).c)∧W.cell? ⟨b,off+2,none⟩=some (.slice (X 0).b (X 0).m (X 0).d))∧(W.cell? ⟨b,off+3,none⟩=some (.bool (X 1).s)∧W.cell? ⟨b,off+3+1,none⟩=some (.slice (X 1).a (X 1).l (X 1).c)∧W.cell? ⟨b,off+3+2,none⟩=some (.slice (X 1).b (X 1).m (X 1).d))∧Gq wE W) (by kernel_rfl) (HS.o _ hcut0) (fun hHeld=> ?_);refine tkY 0 (v:= ?_) rfl (by kernel_rfl) (by kernel_rfl) (by kernel_rfl) (fun _ _ _ h=>h) (by rfl) ?_ (by assumption) ?_
        rotate_left
        · (intro wS hSw; (try dsimp only at hSw);go_simp;try(with_reducible rfl))
        (try simp only[Act.put,Zb,Zc,Zd]);refine tkY 1 (v:= ?_) rfl (by kernel_rfl) (by kernel_rfl) (by kernel_rfl) (fun _ _ _ h=>h) (by rfl) ?_ (by assumption) ?_
        rotate_left
        · (intro wS hSw; (try dsimp only at hSw);go_simp;try(with_reducible rfl))
        (try simp only[Act.put,Zb,Zc,Zd]);refine tkY 2 (v:= ?_) rfl (by kernel_rfl) (by kernel_rfl) (by kernel_rfl) (fun _ _ _ h=>h) (by rfl) ?_ (by assumption) ?_
        rotate_left
        · (intro wS hSw; (try dsimp only at hSw);go_simp;try(with_reducible rfl))
        (try simp only[Act.put,Zb,Zc,Zd]);refine tkY 3 (v:= ?_) rfl (by kernel_rfl) (by kernel_rfl) (by kernel_rfl) (fun _ _ _ h=>h) (by rfl) ?_ (by assumption) ?_
        rotate_left
        · (intro wS hSw; (try dsimp only at hSw);go_simp;try(with_reducible rfl))
        (try simp only[Act.put,Zb,Zc,Zd]);refine tkY 4 (v:= ?_) rfl (by kernel_rfl) (by kernel_rfl) (by kernel_rfl) (fun _ _ _ h=>h) (by rfl) ?_ (by assumption) ?_
        rotate_left
        · (intro wS hSw; (try dsimp only at hSw);go_simp;try(with_reducible rfl))
        (try simp only[Act.put,Zb,Zc,Zd]);refine tkY 5 (v:= ?_) rfl (by kernel_rfl) (by kernel_rfl) (by kernel_rfl) (fun _ _ _ h=>h) (by rfl) ?_ (by assumption) ?_
        rotate_left
        · (intro wS hSw; (try dsimp only at hSw);go_simp;try(with_reducible rfl))
        (try simp only[Act.put,Zb,Zc,Zd]);refine tkY 6 (v:= ?_) rfl (by kernel_rfl) (by kernel_rfl) (by kernel_rfl) (fun _ _ _ h=>h) (by rfl) ?_ (by assumption) ?_
        rotate_left
        · (intro wS hSw; (try dsimp only at hSw);go_simp;try(with_reducible rfl))
        (try simp only[Act.put,Zb,Zc,Zd]);refine tkY 7 (v:= ?_) rfl (by kernel_rfl) (by kernel_rfl) (by kernel_rfl) (fun _ _ _ h=>h) (by rfl) ?_ (by assumption) ?_
        rotate_left
        · (intro wS hSw; (try dsimp only at hSw);go_simp;try(with_reducible rfl))
        (try simp only[Act.put,Zb,Zc,Zd]);refine tkY 8 (v:= ?_) rfl (by kernel_rfl) (by kernel_rfl) (by kernel_rfl) (fun _ _ _ h=>h) (by rfl) ?_ (by assumption) ?_
        rotate_left
        · (intro wS hSw; (try dsimp only at hSw);go_simp;try(with_reducible rfl))
        (try simp only[Act.put,Zb,Zc,Zd]);refine wpAnyH_ready (rs:= [9]) (by kernel_rfl) (by simp) ?_;refine AllReadyH.cons (o:= {dst:=some 85,op:=Go.Op.call {callee:=Go.Callee.value (Go.Operand.func 93),args:= #[Go.Operand.tmp 81,Go.Operand.tmp 84],argTypes:= #[85,85]},type:=3,pos:= "edit.go:156",after:= #[{on:=5,ground:=Go.Ground.data}, {on:=8,ground:=Go.Ground.data}, {on:=2,ground:=Go.Ground.chain}, {on:=2,ground:=Go.Ground.guard}],guard:=some (2,true)}) rfl (fun K hK=> ?_) AllReadyH.nil;go_simp;(with_reducible refine(HCM.o _ hcut0).mono ?_);rintro e wB ⟨rfl,hqB⟩;go_wp2_with fail;refine hK.out _ _ (HS.o _ hqB) (fun hHeld=> ?_);clear hK K;(try simp only[Act.put,Zb,Zc,Zd]);refine tkY 10 (v:= ?_) rfl (by kernel_rfl) (by kernel_rfl) (by kernel_rfl) (fun _ _ _ h=>h) (by rfl) ?_ (by assumption) ?_
        rotate_left
        · (intro wS hSw; (try dsimp only at hSw);go_simp;try(with_reducible rfl))
        (try simp only[Act.put,Zb,Zc,Zd]);refine tkY 11 (v:= ?_) rfl (by kernel_rfl) (by kernel_rfl) (by kernel_rfl) (fun _ _ _ h=>h) (by rfl) ?_ (by assumption) ?_
        rotate_left
        · (intro wS hSw; (try dsimp only at hSw);go_simp;try(with_reducible rfl))
        (try simp only[Act.put,Zb,Zc,Zd]);refine tkY 12 (v:= ?_) rfl (by kernel_rfl) (by kernel_rfl) (by kernel_rfl) (fun _ _ _ h=>h) (by rfl) ?_ (by assumption) ?_
        rotate_left
        · (intro wS hSw; (try dsimp only at hSw);go_simp;try(with_reducible rfl))
        (try simp only[Act.put,Zb,Zc,Zd]);have hrt:=HRT.o;subst hrt;refine tkN 13 rfl (by kernel_rfl) (by kernel_rfl) (by kernel_rfl) (fun _ _ _ h=>h) (by rfl) rfl (by assumption) ?_;(try simp only[Act.put,Zb,Zc,Zd]);refine tkN 14 rfl (by kernel_rfl) (by kernel_rfl) (by kernel_rfl) (fun _ _ _ h=>h) (by rfl) rfl (by assumption) ?_;(try simp only[Act.put,Zb,Zc,Zd]);refine tkN 15 rfl (by kernel_rfl) (by kernel_rfl) (by kernel_rfl) (fun _ _ _ h=>h) (by rfl) rfl (by assumption) ?_;(try simp only[Act.put,Zb,Zc,Zd]);refine tkY 16 (v:= ?_) rfl (by kernel_rfl) (by kernel_rfl) (by kernel_rfl) (fun _ _ _ h=>h) (by rfl) ?_ (by assumption) ?_
        rotate_left
        · (intro wS hSw; (try dsimp only at hSw);go_simp;try(with_reducible rfl))
        (try simp only[Act.put,Zb,Zc,Zd]);refine wpAnyH_done (by kernel_rfl) ?_ _;go_wp2_with fail;go_meet
        case rel=>exact⟨_,rfl,HFT.o,hqB⟩
       ·
        have hrf:rj=false:=(by simpa using hrt);have HRT:=Za hrf;have HFF:Hid (FN=if rz=true then 0::P else P):=HRZ.o (by unfold hdQ;rw[if_neg (fun g=>g.2 (hz.1 (by rw[hrf]at hrj;simpa using hrj)))]);clear h0 hc0 hz hrt hrf;refine wp_region_held_drew (S:=fun W=>(W.cell? ⟨b,off,none⟩=some (.bool (X 0).s)∧W.cell? ⟨b,off+1,none⟩=some (.slice (X 0).a (X 0).l (X 0).c)∧W.cell? ⟨b,off+2,none⟩=some (.slice (X 0).b (X 0).m (X 0).d))∧(W.cell? ⟨b,off+3,none⟩=some (.bool (X 1).s)∧W.cell? ⟨b,off+3+1,none⟩=some (.slice (X 1).a (X 1).l (X 1).c)∧W.cell? ⟨b,off+3+2,none⟩=some (.slice (X 1).b (X 1).m (X 1).d))∧Gq wE W) (by kernel_rfl) (HS.o _ hcut0) (fun hHeld=> ?_);refine tkY 0 (v:= ?_) rfl (by kernel_rfl) (by kernel_rfl) (by kernel_rfl) (fun _ _ _ h=>h) (by rfl) ?_ (by assumption) ?_
        rotate_left
        · (intro wS hSw; (try dsimp only at hSw);go_simp;try(with_reducible rfl))
        (try simp only[Act.put,Zb,Zc,Zd]);refine tkY 1 (v:= ?_) rfl (by kernel_rfl) (by kernel_rfl) (by kernel_rfl) (fun _ _ _ h=>h) (by rfl) ?_ (by assumption) ?_
        rotate_left
        · (intro wS hSw; (try dsimp only at hSw);go_simp;try(with_reducible rfl))
        (try simp only[Act.put,Zb,Zc,Zd]);refine tkY 2 (v:= ?_) rfl (by kernel_rfl) (by kernel_rfl) (by kernel_rfl) (fun _ _ _ h=>h) (by rfl) ?_ (by assumption) ?_
        rotate_left
        · (intro wS hSw; (try dsimp only at hSw);go_simp;try(with_reducible rfl))
        (try simp only[Act.put,Zb,Zc,Zd]);refine tkY 3 (v:= ?_) rfl (by kernel_rfl) (by kernel_rfl) (by kernel_rfl) (fun _ _ _ h=>h) (by rfl) ?_ (by assumption) ?_
        rotate_left
        · (intro wS hSw; (try dsimp only at hSw);go_simp;try(with_reducible rfl))
        (try simp only[Act.put,Zb,Zc,Zd]);refine tkY 4 (v:= ?_) rfl (by kernel_rfl) (by kernel_rfl) (by kernel_rfl) (fun _ _ _ h=>h) (by rfl) ?_ (by assumption) ?_
        rotate_left
        · (intro wS hSw; (try dsimp only at hSw);go_simp;try(with_reducible rfl))
        (try simp only[Act.put,Zb,Zc,Zd]);refine tkY 5 (v:= ?_) rfl (by kernel_rfl) (by kernel_rfl) (by kernel_rfl) (fun _ _ _ h=>h) (by rfl) ?_ (by assumption) ?_
        rotate_left
        · (intro wS hSw; (try dsimp only at hSw);go_simp;try(with_reducible rfl))
        (try simp only[Act.put,Zb,Zc,Zd]);refine tkY 6 (v:= ?_) rfl (by kernel_rfl) (by kernel_rfl) (by kernel_rfl) (fun _ _ _ h=>h) (by rfl) ?_ (by assumption) ?_
        rotate_left
        · (intro wS hSw; (try dsimp only at hSw);go_simp;try(with_reducible rfl))
        (try simp only[Act.put,Zb,Zc,Zd]);refine tkY 7 (v:= ?_) rfl (by kernel_rfl) (by kernel_rfl) (by kernel_rfl) (fun _ _ _ h=>h) (by rfl) ?_ (by assumption) ?_
        rotate_left
        · (intro wS hSw; (try dsimp only at hSw);go_simp;try(with_reducible rfl))
        (try simp only[Act.put,Zb,Zc,Zd]);refine tkY 8 (v:= ?_) rfl (by kernel_rfl) (by kernel_rfl) (by kernel_rfl) (fun _ _ _ h=>h) (by rfl) ?_ (by assumption) ?_
        rotate_left
        · (intro wS hSw; (try dsimp only at hSw);go_simp;try(with_reducible rfl))
        (try simp only[Act.put,Zb,Zc,Zd]);refine wpAnyH_ready (rs:= [9]) (by kernel_rfl) (by simp) ?_;refine AllReadyH.cons (o:= {dst:=some 85,op:=Go.Op.call {callee:=Go.Callee.value (Go.Operand.func 93),args:= #[Go.Operand.tmp 81,Go.Operand.tmp 84],argTypes:= #[85,85]},type:=3,pos:= "edit.go:156",after:= #[{on:=5,ground:=Go.Ground.data}, {on:=8,ground:=Go.Ground.data}, {on:=2,ground:=Go.Ground.chain}, {on:=2,ground:=Go.Ground.guard}],guard:=some (2,true)}) rfl (fun K hK=> ?_) AllReadyH.nil;go_simp;(with_reducible refine(HCM.o _ hcut0).mono ?_);rintro e wB ⟨rfl,hqB⟩;go_wp2_with fail;refine hK.out _ _ (HS.o _ hqB) (fun hHeld=> ?_);clear hK K;(try simp only[Act.put,Zb,Zc,Zd]);refine tkY 10 (v:= ?_) rfl (by kernel_rfl) (by kernel_rfl) (by kernel_rfl) (fun _ _ _ h=>h) (by rfl) ?_ (by assumption) ?_
        rotate_left
        · (intro wS hSw; (try dsimp only at hSw);go_simp;try(with_reducible rfl))
        (try simp only[Act.put,Zb,Zc,Zd]);refine tkY 11 (v:= ?_) rfl (by kernel_rfl) (by kernel_rfl) (by kernel_rfl) (fun _ _ _ h=>h) (by rfl) ?_ (by assumption) ?_
        rotate_left
        · (intro wS hSw; (try dsimp only at hSw);go_simp;try(with_reducible rfl))
        (try simp only[Act.put,Zb,Zc,Zd]);refine tkY 12 (v:= ?_) rfl (by kernel_rfl) (by kernel_rfl) (by kernel_rfl) (fun _ _ _ h=>h) (by rfl) ?_ (by assumption) ?_
        rotate_left
        · (intro wS hSw; (try dsimp only at hSw);go_simp;try(with_reducible rfl))
        (try simp only[Act.put,Zb,Zc,Zd]);have hrt:=HRT.o;subst hrt;refine tkY 13 (v:= ?_) rfl (by kernel_rfl) (by kernel_rfl) (by kernel_rfl) (fun _ _ _ h=>h) (by rfl) ?_ (by assumption) ?_
        rotate_left
        · (intro wS hSw; (try dsimp only at hSw);go_simp;try(with_reducible rfl))
        (try simp only[Act.put,Zb,Zc,Zd]);refine tkY 14 (v:= ?_) rfl (by kernel_rfl) (by kernel_rfl) (by kernel_rfl) (fun _ _ _ h=>h) (by rfl) ?_ (by assumption) ?_
        rotate_left
        · (intro wS hSw; (try dsimp only at hSw);go_simp;try(with_reducible rfl))
        (try simp only[Act.put,Zb,Zc,Zd]);refine tkY 15 (v:= ?_) rfl (by kernel_rfl) (by kernel_rfl) (by kernel_rfl) (fun _ _ _ h=>h) (by rfl) ?_ (by assumption) ?_
        rotate_left
        · (intro wS hSw; (try dsimp only at hSw);go_simp;try(with_reducible rfl))
        (try simp only[Act.put,Zb,Zc,Zd]);refine tkY 16 (v:= ?_) rfl (by kernel_rfl) (by kernel_rfl) (by kernel_rfl) (fun _ _ _ h=>h) (by rfl) ?_ (by assumption) ?_
        rotate_left
        · (intro wS hSw; (try dsimp only at hSw);go_simp;try(with_reducible rfl))
        (try simp only[Act.put,Zb,Zc,Zd]);refine wpAnyH_done (by kernel_rfl) ?_ _;go_wp2_with fail;go_meet
        case rel=>exact⟨_,rfl,HFF.o,hqB⟩
     case rest=>
      obtain⟨rh,rfl,HRH,HGD⟩:=hcut;obtain⟨wH,hwH⟩:∃x,x=wc:=⟨_,rfl⟩;subst hwH;have HGH:Hid (Gq w0 wH):=HGE.o.trans HGD.o;have HOH:Hid (wH.ownsRow b0 61 3 (.slice AP P.length cP) P.length (Z32 fq P)):=Z04 HPW.o.1 HGD.o;clear HPW HGE HGD;cases rh with
      |false=>
       have HFI:=Za (HEND.o P AP cP wH (by rw[HRH.o];rfl) HOH.o HGH.o);go_wp2_with fail;exact HFI.o
      |true=>
      obtain⟨⟨d0,d1,d2⟩, -⟩:=HXC.o 0 (by have:=HN.o;omega) wH HGH.o;simp only[Nat.zero_mul,Nat.add_zero]at d0 d1 d2;have i0:(0:Int)<(n:Int):=(by have:=HN.o;omega);have hbn:0<n:=(by have:=HN.o;omega);have hpl:P.length≤100001:=HPL.o;go_wp2_with fail;refine(HOU.o 0 (by omega) wH HGH.o).mono ?_;rintro e w5 ⟨rfl,hg5⟩;have HG9:Hid (Gq w0 w5):=HGH.o.trans hg5;have HG5:Hid (Gq wH w5):=hg5;have HZ9:Hid (b0≤w5.heap.size):=(by have h1:=Below.size HG9.o;have h2:=HZ0.o;show _≤_;omega);have hrun:=run_build (P:=Tryz.prog) w5 61 _ _ (Z7n 0 (Z0n fq 0).n (Z0n fq 0).d);clear hg5;clear d0 d1 d2;have HO5:=Za (Z04 HOH.o HG5.o);obtain⟨wb,hwb⟩:∃wb,wb=w5.alloc (.cells #[.int .i64 0,.string (Z0n fq 0).n,.string (Z0n fq 0).d] 61):=⟨_,rfl⟩;have HLT:Hid (wb.ownsRow b0 61 3 (.slice (some ⟨w5.heap.size,0,none⟩) 1 1) 1 [.int .i64 0,.string (Z0n fq 0).n,.string (Z0n fq 0).d]):=(by rw[hwb];have h:=World.ownsRow_lit (base:=b0) (e:=61) (size:=3) w5 #[.int .i64 0,.string (Z0n fq 0).n,.string (Z0n fq 0).d] 1 HZ9.o (by decide) rfl;exact h);have HGB:Hid (Gq w5 wb):=(by rw[hwb];exact(Gq.refl _).alloc _);have HRB:Hid (Rd wb AP (Z32 fq P)):=(RdT.of_own (Z04 HO5.o HGB.o)).rd;have HWB:=Za hwb;have hbz:b0≤wb.heap.size:=Nat.le_trans HZ9.o (Below.size HGB.o);clear hwb;go_wp2_with (at_builtin; (try rw[←HWB.o]);refine Z2r (by rfl) (.tmp 98) (.tmp 99) 37 (by rfl) b0 61 ii _ 3 40 Tryz.underlying37 HII.o.1 HII.o.2.1 HII.o.2.2.1 HII.o.2.2.2 rfl (by decide) (.slice (some ⟨w5.heap.size,0,none⟩) 1 1) 1 [.int .i64 0,.string (Z0n fq 0).n,.string (Z0n fq 0).d] (by rfl) HLT.o AP P.length cP (Z32 fq P) (by rfl) (prow_len fq P) HRB.o (prow_one fq P) (by unfold maxLen;omega) (by omega) hbz ?_;intro v9 w9 hown9 hg9 hat9;obtain⟨A9,c9,rfl⟩:=Z08 hown9;have hend:=plr_end HG9.o HGB.o HZ0.o HZ9.o hown9 hg9;have HE9:=Za hend;clear hown9 hg9 hat9 hend);exact plr_fin HEND.o (by rw[HRH.o];rfl) HE9.o.2 HE9.o.1
  have hd0:decide (bi<n1)=true:=by simpa using hlt
  obtain⟨ai,hai⟩:∃ai,bi=ai+1:=⟨bi - 1,by omega⟩;obtain⟨ci,hci⟩:∃ci,ci=bi+1:=⟨_,rfl⟩;have hn9:n1≤100000:=by have:=HN.o;omega
  have HIX:Hid (bi=ai+1∧ci=bi+1∧bi<n1∧n=n1+1∧n≤100000∧1≤bi):=⟨hai,hci,hlt,HN.o.1,HN.o.2,hb1⟩
  have HWR:Hid (IntKind.i64.wrap ((bi:Int) - 1)=(ai:Int)∧IntKind.i64.wrap ((bi:Int)+1)=(ci:Int)):=by
   refine⟨?_, ?_⟩
   · rw[show(bi:Int) - 1=(ai:Int) by omega];exact IntWalk.i64_in _ (by omega)
   · rw[show(bi:Int)+1=(ci:Int) by omega];exact IntWalk.i64_in _ (by omega)
  have i0:(0:Int)≤(ai:Int):=by omega
  have i1:(ai:Int)<(n:Int):=by have:=HN.o;omega
  have i2:(0:Int)≤(bi:Int):=by omega
  have i3:(bi:Int)<(n:Int):=by have:=HN.o;omega
  have i4:(0:Int)≤(ci:Int):=by omega
  have i5:(ci:Int)<(n:Int):=by have:=HN.o;omega
  have HX:Hid (∀W,Gq wr W→(W.cell? ⟨b,off+ai*3,none⟩=some (.bool (X ai).s)∧W.cell? ⟨b,off+ai*3+1,none⟩=some (.slice (X ai).a (X ai).l (X ai).c)∧W.cell? ⟨b,off+ai*3+2,none⟩=some (.slice (X ai).b (X ai).m (X ai).d))∧Z0d W (.agg #[.bool (X ai).s,.slice (X ai).a (X ai).l (X ai).c,.slice (X ai).b (X ai).m (X ai).d]) (fq (ai:Int))):=fun W hW=>HXC.o ai (by omega) W (HW.o.2.trans hW);have HY:Hid (∀W,Gq wr W→(W.cell? ⟨b,off+bi*3,none⟩=some (.bool (X bi).s)∧W.cell? ⟨b,off+bi*3+1,none⟩=some (.slice (X bi).a (X bi).l (X bi).c)∧W.cell? ⟨b,off+bi*3+2,none⟩=some (.slice (X bi).b (X bi).m (X bi).d))∧Z0d W (.agg #[.bool (X bi).s,.slice (X bi).a (X bi).l (X bi).c,.slice (X bi).b (X bi).m (X bi).d]) (fq (bi:Int))):=fun W hW=>HXC.o bi (by omega) W (HW.o.2.trans hW);have HZ:Hid (∀W,Gq wr W→(W.cell? ⟨b,off+ci*3,none⟩=some (.bool (X ci).s)∧W.cell? ⟨b,off+ci*3+1,none⟩=some (.slice (X ci).a (X ci).l (X ci).c)∧W.cell? ⟨b,off+ci*3+2,none⟩=some (.slice (X ci).b (X ci).m (X ci).d))∧Z0d W (.agg #[.bool (X ci).s,.slice (X ci).a (X ci).l (X ci).c,.slice (X ci).b (X ci).m (X ci).d]) (fq (ci:Int))):=fun W hW=>HXC.o ci (by omega) W (HW.o.2.trans hW);have HL:Hid (Z0i k (fq (ai:Int))∧Z0i k (fq (bi:Int))∧Z0i k (fq (ci:Int))∧k≤100000):=⟨HLI.o.1 ai (by omega),HLI.o.1 bi (by omega),HLI.o.1 ci (by omega),HLI.o.2⟩;obtain⟨ri,hri⟩:∃ri,Z3p fq (bi:Int)=ri:=⟨_,rfl⟩;have HRI:Hid ((Z4n (fq (bi:Int)+ -fq (ai:Int)) (fq (ci:Int)+ -fq (bi:Int)) !=0)=ri):=by rw[←hri];exact bnt_cmp fq ai bi ci (by omega) (by omega)
  have HUP:Hid (bUp fq ci=if ri=true then O++ [(bi:Int)]else O):=by rw[hci,←hri,HO.o];exact bUp_step fq bi hb1
  clear hai hci hri hlt hb1 hb2;go_upto_region 6 with(fail)
  go_cut [37] (fun v37 wx=>v37= .bool ri∧Hid (Gq wr wx))
  case first=>
   have HBASE:Hid (Gq wr wr.drew):=(Gq.refl _).drew;refine Z00 _ (by kernel_rfl) [[],[],[0,1],[0,1,2],[],[],[5],[4,5,6],[4,5,6,7],[4,5,6,7,8],[0,1,2,3,4,5,6,7,8,9],[],[],[12],[11,12,13],[11,12,13,14],[],[],[16,17],[16,17,18],[16,17,18,19],[11,12,13,14,15,16,17,18,19,20],[0,1,2,3,4,5,6,7,8,9,10,11,12,13,14,15,16,17,18,19,20,21],[0,1,2,3,4,5,6,7,8,9,10,11,12,13,14,15,16,17,18,19,20,21,22]] (by kernel_rfl) (by kernel_rfl) [some 14,some 15,some 16,some 17,some 18,some 19,some 20,some 21,some 22,some 23,some 24,some 25,some 26,some 27,some 28,some 29,some 30,some 31,some 32,some 33,some 34,some 35,some 36,some 37] (by kernel_rfl) (fun vs=>by simp only[Go.Dwo.putA,Go.Dwo.putL,if_true,Act.put,Zb,Zc,Zd];rfl) (plrF wr b off n cc ai bi ci (X ai) (X bi) (X ci) (fq (ai:Int)) (fq (bi:Int)) (fq (ci:Int)) ri) (by kernel_rfl) ?_ ⟨?_, ?_, ?_, ?_, ?_, ?_, ?_, ?_, ?_, ?_, ?_, ?_, ?_, ?_, ?_, ?_, ?_, ?_, ?_, ?_, ?_, ?_, ?_, ?_,trivial⟩ ?_
   · exact fcZ [0] rfl<|fcL (HBASE.o)<|fcN _
   · intro Ls vs w Kk H hu hD hK;go_simp;exact fcV hK (fcP 1 rfl rfl fun _=>rfl)
   · intro Ls vs w Kk H hu hD hK;go_simp;exact fcV hK (fcP 2 rfl rfl fun _=>rfl)
   · intro Ls vs w Kk H hu hD hK;have f0:vs 0= .slice (some ⟨b,off,none⟩) n cc:=fcG H hu hD 1 rfl rfl rfl;have f1:vs 1= .int .i64 (bi:Int):=fcG H hu hD 2 rfl rfl rfl;go_simp;exact fcV hK (fcP 3 rfl rfl fun _=>rfl)
   · intro Ls vs w Kk H hu hD hK;have h0:Gq wr w:=fcG H hu hD 0 rfl rfl rfl;have f2:vs 2= .pointer (some ⟨b,off+bi*3,none⟩):=fcG H hu hD 3 rfl rfl rfl;obtain⟨⟨d0,d1,d2⟩, -⟩:=HY.o w h0;go_simp;exact fcV hK (fcP 4 rfl rfl fun _=>rfl)
   · intro Ls vs w Kk H hu hD hK;go_simp;exact fcV hK (fcP 5 rfl rfl fun _=>rfl)
   · intro Ls vs w Kk H hu hD hK;go_simp;exact fcV hK (fcP 6 rfl rfl fun _=>rfl)
   · intro Ls vs w Kk H hu hD hK;have f5:vs 5= .int .i64 (bi:Int):=fcG H hu hD 6 rfl rfl rfl;have hwa:=HWR.o.1;go_simp;exact fcV hK (fcP 7 rfl rfl fun _=>rfl)
   · intro Ls vs w Kk H hu hD hK;have f4:vs 4= .slice (some ⟨b,off,none⟩) n cc:=fcG H hu hD 5 rfl rfl rfl;have f6:vs 6= .int .i64 (ai:Int):=fcG H hu hD 7 rfl rfl rfl;go_simp;exact fcV hK (fcP 8 rfl rfl fun _=>rfl)
   · intro Ls vs w Kk H hu hD hK;have h0:Gq wr w:=fcG H hu hD 0 rfl rfl rfl;have f7:vs 7= .pointer (some ⟨b,off+ai*3,none⟩):=fcG H hu hD 8 rfl rfl rfl;obtain⟨⟨d0,d1,d2⟩, -⟩:=HX.o w h0;go_simp;exact fcV hK (fcP 9 rfl rfl fun _=>rfl)
   · intro Ls vs w Kk H hu hD hK;have h0:Gq wr w:=fcG H hu hD 0 rfl rfl rfl;have f8:vs 8= .agg #[.bool (X ai).s,.slice (X ai).a (X ai).l (X ai).c,.slice (X ai).b (X ai).m (X ai).d]:=fcG H hu hD 9 rfl rfl rfl;go_simp;refine(Z3m _ _ w (HX.o w h0).2).mono ?_;rintro e w' ⟨v,rfl,hv,hb⟩;obtain⟨z1,z2,z3,z4,z5,z6,rfl, -, -⟩:=Z0c hv;exact⟨_,rfl,fcC hK (fun f hf _ h=>plrK wr b off n cc ai bi ci (X ai) (X bi) (X ci) (fq (ai:Int)) (fq (bi:Int)) (fq (ci:Int)) ri f hf _ _ _ hb h) (fcP 10 rfl rfl fun _=>⟨_,z1,z2,z3,z4,z5,z6,rfl,hv⟩)⟩
   · intro Ls vs w Kk H hu hD hK;have h0:Gq wr w:=fcG H hu hD 0 rfl rfl rfl;have f3:vs 3= .agg #[.bool (X bi).s,.slice (X bi).a (X bi).l (X bi).c,.slice (X bi).b (X bi).m (X bi).d]:=fcG H hu hD 4 rfl rfl rfl;obtain⟨zs9,zA9,zL9,zc9,zB9,zM9,zd9,e9,v9⟩:∃zs zA zL zc zB zM zd,vs 9= .agg #[.bool zs,.slice zA zL zc,.slice zB zM zd]∧Z0d w (.agg #[.bool zs,.slice zA zL zc,.slice zB zM zd]) (-fq (ai:Int)):=fcG H hu hD 10 rfl rfl rfl;go_simp;refine(Z3g _ _ _ _ w (HY.o w h0).2 v9 k HL.o.2.1 HL.o.1.neg (by have:=HL.o.2.2.2;omega)).mono ?_;rintro e w' ⟨v,rfl,hv,hb⟩;obtain⟨z1,z2,z3,z4,z5,z6,rfl, -, -⟩:=Z0c hv;exact⟨_,rfl,fcC hK (fun f hf _ h=>plrK wr b off n cc ai bi ci (X ai) (X bi) (X ci) (fq (ai:Int)) (fq (bi:Int)) (fq (ci:Int)) ri f hf _ _ _ hb h) (fcP 11 rfl rfl fun _=>⟨_,z1,z2,z3,z4,z5,z6,rfl,hv⟩)⟩
   · intro Ls vs w Kk H hu hD hK;go_simp;exact fcV hK (fcP 12 rfl rfl fun _=>rfl)
   · intro Ls vs w Kk H hu hD hK;go_simp;exact fcV hK (fcP 13 rfl rfl fun _=>rfl)
   · intro Ls vs w Kk H hu hD hK;have f12:vs 12= .int .i64 (bi:Int):=fcG H hu hD 13 rfl rfl rfl;have hwb:=HWR.o.2;go_simp;exact fcV hK (fcP 14 rfl rfl fun _=>rfl)
   · intro Ls vs w Kk H hu hD hK;have f11:vs 11= .slice (some ⟨b,off,none⟩) n cc:=fcG H hu hD 12 rfl rfl rfl;have f13:vs 13= .int .i64 (ci:Int):=fcG H hu hD 14 rfl rfl rfl;go_simp;exact fcV hK (fcP 15 rfl rfl fun _=>rfl)
   · intro Ls vs w Kk H hu hD hK;have h0:Gq wr w:=fcG H hu hD 0 rfl rfl rfl;have f14:vs 14= .pointer (some ⟨b,off+ci*3,none⟩):=fcG H hu hD 15 rfl rfl rfl;obtain⟨⟨d0,d1,d2⟩, -⟩:=HZ.o w h0;go_simp;exact fcV hK (fcP 16 rfl rfl fun _=>rfl)
   · intro Ls vs w Kk H hu hD hK;go_simp;exact fcV hK (fcP 17 rfl rfl fun _=>rfl)
   · intro Ls vs w Kk H hu hD hK;go_simp;exact fcV hK (fcP 18 rfl rfl fun _=>rfl)
   · intro Ls vs w Kk H hu hD hK;have f16:vs 16= .slice (some ⟨b,off,none⟩) n cc:=fcG H hu hD 17 rfl rfl rfl;have f17:vs 17= .int .i64 (bi:Int):=fcG H hu hD 18 rfl rfl rfl;go_simp;exact fcV hK (fcP 19 rfl rfl fun _=>rfl)
   · intro Ls vs w Kk H hu hD hK;have h0:Gq wr w:=fcG H hu hD 0 rfl rfl rfl;have f18:vs 18= .pointer (some ⟨b,off+bi*3,none⟩):=fcG H hu hD 19 rfl rfl rfl;obtain⟨⟨d0,d1,d2⟩, -⟩:=HY.o w h0;go_simp;exact fcV hK (fcP 20 rfl rfl fun _=>rfl)
   · intro Ls vs w Kk H hu hD hK;have h0:Gq wr w:=fcG H hu hD 0 rfl rfl rfl;have f19:vs 19= .agg #[.bool (X bi).s,.slice (X bi).a (X bi).l (X bi).c,.slice (X bi).b (X bi).m (X bi).d]:=fcG H hu hD 20 rfl rfl rfl;go_simp;refine(Z3m _ _ w (HY.o w h0).2).mono ?_;rintro e w' ⟨v,rfl,hv,hb⟩;obtain⟨z1,z2,z3,z4,z5,z6,rfl, -, -⟩:=Z0c hv;exact⟨_,rfl,fcC hK (fun f hf _ h=>plrK wr b off n cc ai bi ci (X ai) (X bi) (X ci) (fq (ai:Int)) (fq (bi:Int)) (fq (ci:Int)) ri f hf _ _ _ hb h) (fcP 21 rfl rfl fun _=>⟨_,z1,z2,z3,z4,z5,z6,rfl,hv⟩)⟩
   · intro Ls vs w Kk H hu hD hK;have h0:Gq wr w:=fcG H hu hD 0 rfl rfl rfl;have f15:vs 15= .agg #[.bool (X ci).s,.slice (X ci).a (X ci).l (X ci).c,.slice (X ci).b (X ci).m (X ci).d]:=fcG H hu hD 16 rfl rfl rfl;obtain⟨zs20,zA20,zL20,zc20,zB20,zM20,zd20,e20,v20⟩:∃zs zA zL zc zB zM zd,vs 20= .agg #[.bool zs,.slice zA zL zc,.slice zB zM zd]∧Z0d w (.agg #[.bool zs,.slice zA zL zc,.slice zB zM zd]) (-fq (bi:Int)):=fcG H hu hD 21 rfl rfl rfl;go_simp;refine(Z3g _ _ _ _ w (HZ.o w h0).2 v20 k HL.o.2.2.1 HL.o.2.1.neg (by have:=HL.o.2.2.2;omega)).mono ?_;rintro e w' ⟨v,rfl,hv,hb⟩;obtain⟨z1,z2,z3,z4,z5,z6,rfl, -, -⟩:=Z0c hv;exact⟨_,rfl,fcC hK (fun f hf _ h=>plrK wr b off n cc ai bi ci (X ai) (X bi) (X ci) (fq (ai:Int)) (fq (bi:Int)) (fq (ci:Int)) ri f hf _ _ _ hb h) (fcP 22 rfl rfl fun _=>⟨_,z1,z2,z3,z4,z5,z6,rfl,hv⟩)⟩
   · intro Ls vs w Kk H hu hD hK;obtain⟨zs10,zA10,zL10,zc10,zB10,zM10,zd10,e10,v10⟩:∃zs zA zL zc zB zM zd,vs 10= .agg #[.bool zs,.slice zA zL zc,.slice zB zM zd]∧Z0d w (.agg #[.bool zs,.slice zA zL zc,.slice zB zM zd]) (fq (bi:Int)+ -fq (ai:Int)):=fcG H hu hD 11 rfl rfl rfl;obtain⟨zs21,zA21,zL21,zc21,zB21,zM21,zd21,e21,v21⟩:∃zs zA zL zc zB zM zd,vs 21= .agg #[.bool zs,.slice zA zL zc,.slice zB zM zd]∧Z0d w (.agg #[.bool zs,.slice zA zL zc,.slice zB zM zd]) (fq (ci:Int)+ -fq (bi:Int)):=fcG H hu hD 22 rfl rfl rfl;go_simp;refine(Z52 _ _ _ _ w v10 v21 (k+k+1) (HL.o.2.1.add HL.o.1.neg) (HL.o.2.2.1.add HL.o.2.1.neg) (by have:=HL.o.2.2.2;omega)).mono ?_;rintro e w' ⟨rfl,hb⟩;exact⟨_,rfl,fcC hK (fun f hf _ h=>plrK wr b off n cc ai bi ci (X ai) (X bi) (X ci) (fq (ai:Int)) (fq (bi:Int)) (fq (ci:Int)) ri f hf _ _ _ hb h) (fcP 23 rfl rfl fun _=>rfl)⟩
   · intro Ls vs w Kk H hu hD hK;have f22:vs 22= .int .i64 (Z4n (fq (bi:Int)+ -fq (ai:Int)) (fq (ci:Int)+ -fq (bi:Int))):=fcG H hu hD 23 rfl rfl rfl;have HRE:=HRI.o;go_simp;exact fcV hK (fcP 24 rfl rfl fun _=>rfl)
   ·
    intro vs w H;have h0:Gq wr w:=fcE H 0 rfl rfl;have f23:vs 23= .bool ri:=fcE H 24 rfl rfl;clear H;simp only[Nat.zero_add,Nat.reduceAdd];have HFIN:Hid (Gq wr w):=h0;clear h0;simp only[f23];go_wp2_with fail;go_meet
    case rel=>exact⟨rfl,HFIN.o⟩
  case rest=>
   obtain⟨rfl,HGC⟩:=hcut;obtain⟨wA,hwA⟩:∃x,x=wc:=⟨_,rfl⟩;subst hwA;have HGA:Hid (Gq w0 wA):=HW.o.2.trans HGC.o;have HOA:Hid (wA.ownsRow b0 61 3 (.slice AO O.length cO) O.length (Z32 fq O)):=Z04 HW.o.1 HGC.o;have hwb:=HWR.o.2;cases ri with
   |false=>
    have HU2:Hid (O=bUp fq ci):=(by rw[HUP.o];rfl);clear HRI HL HX HZ HY;go_wp2_with fail;go_roundw
    case rel=>exact⟨ci,O,AO,cO,by have:=HIX.o;omega,by have:=HIX.o;omega,by go_num,rfl,HU2.o,HOA.o,HGA.o⟩
    case measure=>have:=HIX.o;simp[intOf];omega
   |true=>
   obtain⟨⟨d0,d1,d2⟩, -⟩:=HXC.o bi (by have:=HIX.o;omega) wA HGA.o;have HU2:Hid (O++ [(bi:Int)]=bUp fq ci):=(by rw[HUP.o];rfl);have hbn:bi<n:=(by have:=HIX.o;omega);clear HRI HL HX HZ HY;go_wp2_with fail;refine(HOU.o bi (by omega) wA HGA.o).mono ?_;rintro e w5 ⟨rfl,hg5⟩;have HG9:Hid (Gq w0 w5):=HGA.o.trans hg5;have HG5:Hid (Gq wA w5):=hg5;have HZ9:Hid (b0≤w5.heap.size):=(by have h1:=Below.size HG9.o;have h2:=HZ0.o;show _≤_;omega);have hrun:=run_build (P:=Tryz.prog) w5 61 _ _ (Z7n (bi:Int) (Z0n fq (bi:Nat)).n (Z0n fq (bi:Nat)).d);clear hg5;clear d0 d1 d2;have HO5:=Za (Z04 HOA.o HG5.o);go_wp2_with (at_builtin; (refine wpList_append_own _ rfl _ _ 37 rfl b0 61 ii _ 3 40 Tryz.underlying37 HII.o.1 HII.o.2.1 HII.o.2.2.1 HII.o.2.2.2 rfl (by decide) (.slice AO O.length cO) O.length (Z32 fq O) rfl (HO5.o.alloc _) ⟨w5.heap.size,0,none⟩ 1 1 [.int .i64 ((bi:Int)),.string (Z0n fq ((bi:Int))).n,.string (Z0n fq ((bi:Int))).d] (by rfl) (by rfl) (World.news_of_block (cs:= #[.int .i64 ((bi:Int)),.string (Z0n fq ((bi:Int))).n,.string (Z0n fq ((bi:Int))).d]) (t:=61) (fr:=(0,0)) (by exact heap_alloc_new w5 _)) (by simp[Value.oneCell']) (by unfold maxLen;omega) (by omega) (by have:=HZ9.o;simp;omega) ?_);intro v9 w9 hown9 hgrow9 _;have hend:=Z3y HG9.o HZ0.o HO5.o hown9 hgrow9;obtain⟨A9,c9,rfl⟩:=Z08 hown9;have HE9:=Za hend;clear hend hown9 hgrow9);go_roundw
   case rel=>exact⟨ci,O++ [(bi:Int)],A9,c9,by have:=HIX.o;omega,by have:=HIX.o;omega,by go_num,by rw[Zj];rfl,HU2.o,Z65 HE9.o.2.1,HE9.o.1⟩
   case measure=>have:=HIX.o;simp[intOf];omega
end Go.Proofs.YtcemlhbfemenpaaGreatDoor
namespace Go.Proofs.YtcemlhbfemenpaaGreatDoor
open Go.RowKit Go.Dw
theorem pnt_lim5 {ln:Int}{p:Pnt}(h:PntR ln p):Z0i 5 (Z07 p):=by
 obtain⟨h1,h2,h3⟩:=Z58 h.r;have hr:=Z3t h.r;have hw:(10:Nat) ^ 40≤W32 ^ 5:=by decide
 have hl:∀l:List UInt8,l.all isD=true→l.length≤40→Lim 5 (Z0e l):=fun l hl hn=>
  Nat.lt_of_lt_of_le (Z4p _ l rfl hl) (Nat.le_trans (Nat.pow_le_pow_right (by decide) hn) hw)
 refine⟨?_, ?_⟩
 · unfold Z07;rw[h1,Z2t];exact hl _ ((Z0p _).1 hr.nz).1 h.n
 · unfold Z07;rw[h2];exact hl _ ((Z0p _).1 hr.dz).1 h.d
theorem Z4w {e:List Pnt}{ln i:Int}(h:Z3r ln e=0)(hl:ln≤100000)(hi:0≤i∧i<100000):Z0i 40 (Z38 e i):=by
 obtain⟨h1,h2,h3⟩:=Z1k h;have hg:∀k,k<e.length→Z0i 5 (Z07 (e.getD k Z0j))∧0≤(e.getD k Z0j).at_∧(e.getD k Z0j).at_<ln:=fun k hk=>by have hm:e.getD k Z0j∈e:=(by rw[Zg,Zi hk];exact Zn hk);have hp:=h3 _ hm;exact⟨pnt_lim5 hp,hp.a⟩
 unfold Z38
 split
 · exact(hg 0 h1).1.mono (by omega)
 ·
  split
  · exact(hg _ (by omega)).1.mono (by omega)
  ·
   rename_i q1 q2
   have hle:=Z4q e i;obtain⟨a1,a2,a3⟩:=hg (Z18 e i - 1) (by omega);obtain⟨b1,b2,b3⟩:=hg (Z18 e i) (by omega);unfold Z7v;have hd:Z0i 11 (Z07 (e.getD (Z18 e i) Z0j) - Z07 (e.getD (Z18 e i - 1) Z0j)):=(Z0i.sub b1 a1).mono (by omega);have hinc:=Z42 h (Z18 e i - 1) (by omega);rw[show Z18 e i - 1+1=Z18 e i by omega]at hinc;generalize (e.getD (Z18 e i) Z0j)=q at*;generalize (e.getD (Z18 e i - 1) Z0j)=p at*;have hm:Z0i 11 (mkRat (i - p.at_) (q.at_ - p.at_).toNat):=(by have g1:Lim 1 (i - p.at_).natAbs:=(by unfold Lim;rw[Nat.pow_one];have:W32=4294967296:=rfl;omega);have g2:Lim 1 (q.at_ - p.at_).toNat:=(by unfold Lim;rw[Nat.pow_one];have:W32=4294967296:=rfl;omega);exact(Z0i.mk g1 g2 (by omega)).mono (by omega));exact(Z0i.add a1 (Z0i.mul hd hm)).mono (by omega)
theorem Zbh {f:Int→Rat}{i:Int}{k:Nat}(h:Z0i k (f i)):(boT (Z0n f i).n).length≤10*k+1∧(Z0n f i).d.data.toList.length≤10*k+1∧(Z0n f i).n.size≤10*k+2:=by
 have h1:=Z3x h.1;have h2:=Z3x h.2;refine⟨?_, ?_, ?_⟩
 · rw[show boT (Z0n f i).n=Lib.decDigits (f i).num.natAbs from(Z64 (f i)).2];exact h1
 · show((Zbl (f i)).toArray.toList).length≤_;rw[List.toList_toArray];exact h2
 ·
  show(Z7r (f i)).toArray.size≤_;rw[List.size_toArray];unfold Z7r;rw[Zj]
  split<;>simp<;>omega
theorem Zfq {f:Int→Rat}{i:Int}{k:Nat}(h:Z0i k (f i))(hk:k≤199):Z2h (Z0n f i).n (Z0n f i).d=0:=by
 obtain⟨h1,h2, -⟩:=Zbh h;rcases ratF_pnt f i with g|g
 · exact g
 ·
  exfalso;unfold Z2h at g
  split at g
  · omega
  ·
   split at g
   · omega
   · split at g<;>omega
theorem Zfr (f:Int→Rat):∀k,(bUp f k).length≤k
 |0=>Zh _
 |k+1=>by
  have:=Zfr f k;rw[bUp]
  split
  · rw[Zj];simp;omega
  · omega
theorem Zbi (f:Int→Rat)(n:Nat):(Z5g f n).length≤n+2:=by
 have h0:=Zfr f (n - 1);unfold Z5g Z69 orZero;rw[List.length_map]
 split
 · simp
 · rw[Zj,Zj];have h1:(hdQ f n).length≤1:=(by unfold hdQ;split<;>simp);have h2:(tlQ f n).length≤1:=(by unfold tlQ;split<;>simp);omega
theorem envV_pln {f:Int→Rat}{n:Nat}{ln:Int}(hn:0<n)(hm:n≤100000)(hl:ln=n)(h:∀i:Int,0≤i→i<n→Z0i 40 (f i)):EnvV ln (Z5g f n):=by
 refine⟨?_, ?_,fun k hk=>plnE_inc f n k hk,fun p hp=> ?_⟩
 · unfold Z5g;rw[List.length_map];have:=pln_ne f n;omega
 · have:=Zbi f n;omega
 · obtain⟨i,hi,rfl⟩:=List.mem_map.1 hp;obtain⟨h1,h2⟩:=Z7k hn hi;have hr:=h i h1 h2;refine⟨⟨h1,by rw[hl];exact h2⟩,Zfq hr (by decide),by rw[Z7l];exact hr, ?_⟩;have:=(Zbh hr).2.2;omega
def CliB (c:Cli):Prop:=Z3r c.ln c.e=0∧(1≤c.ln∧c.ln≤100000)∧(0≤c.fr∧c.fr≤10000000000000)∧0≤c.at_∧c.at_+c.ln≤100000
def Z6s (c:Cli):Prop:=∃d,CliB d∧(c=d∨∃a b,0≤a∧a<b∧b≤d.ln∧c=Z31 d a b)
theorem cliV_of {nm:ByteArray→Bool}{tk:Int}{c:Cli}(h:Z3n nm tk c=0):Z6s c:=by
 have h2:=(Z5o h).r;exact⟨c,⟨Z5d h,by omega,by omega,by omega,by omega⟩,.inl rfl⟩
theorem Z6s.bnd {c:Cli}(h:Z6s c):(1≤c.ln∧c.ln≤100000)∧(0≤c.fr∧c.fr≤10000000100000)∧0≤c.at_∧c.at_+c.ln≤100000:=by
 obtain⟨d,⟨-,h1,h2,h3,h4⟩,rfl|⟨a,b,a0,ab,bl,rfl⟩⟩:=h
 · omega
 · show(1≤b - a∧b - a≤100000)∧(0≤d.fr+a∧d.fr+a≤10000000100000)∧0≤d.at_+a∧d.at_+a+(b - a)≤100000;omega
theorem Z6s.lim {c:Cli}(h:Z6s c){i:Int}(h1:0≤i)(h2:i<c.ln):Z0i 40 (Z38 c.e i):=by
 obtain⟨d,⟨g,g1, -⟩,rfl|⟨a,b,a0,ab,bl,rfl⟩⟩:=h
 · exact Z4w g g1.2 (by omega)
 · have h3:i<b - a:=h2;show Z0i 40 (Z38 (Z5g (fun i=>Z38 d.e (i+a)) (b - a).toNat) i);rw[Zay (fun i=>Z7l _ i) h1 (by omega)];exact Z4w g g1.2 (by omega)
theorem Z6s.env {c:Cli}(h:Z6s c):EnvV c.ln c.e:=by
 obtain⟨d,⟨g,g1, -⟩,rfl|⟨a,b,a0,ab,bl,rfl⟩⟩:=h
 · exact envV_of g
 · exact envV_pln (by omega) (by omega) (by show b - a=_;omega) fun i h1 h2=>Z4w g g1.2 (by omega)
theorem Z6s.par {c:Cli}(h:Z6s c){x y:Int}(hx:0≤x)(hxy:x<y)(hy:y≤c.ln):Z6s (Z31 c x y):=by
 obtain⟨d,hd,rfl|⟨a,b,a0,ab,bl,rfl⟩⟩:=h
 · exact⟨c,hd,.inr ⟨x,y,hx,hxy,hy,rfl⟩⟩
 · have hy2:y≤b - a:=hy;exact⟨d,hd,.inr ⟨a+x,a+y,by omega,by omega,by omega,Z7m hx hxy hy2⟩⟩
theorem Z6s.cut {c:Cli}(h:Z6s c)(p:Int):∀d∈Z2b p c,Z6s d:=fun d hd=>by
 have hb:=h.bnd;unfold Z2b at hd
 split at hd
 · rw[List.mem_singleton]at hd;rw[hd];exact h
 ·
  rw[List.mem_cons,List.mem_singleton]at hd;rcases hd with rfl|rfl
  · exact h.par (by omega) (by omega) (by omega)
  · exact h.par (by omega) (by omega) (by omega)
end Go.Proofs.YtcemlhbfemenpaaGreatDoor
namespace Go.Proofs.YtcemlhbfemenpaaGreatDoor
open Go.RowKit Go.Dw
open Go.Dwo (fcL fcN fcK fcZ fcG fcE fcD fcV fcC fcP Z00)
attribute [local go_sem ↓] Go.wp_at_zero Go.wp_at_succ
attribute [local go_sem] Go.Dwo.Oper.tame Go.Dwo.actOf List.getD_cons_zero List.getD_cons_succ
theorem builtCl (m:ByteArray)(c f t a l:Int)(A:Option Addr)(n d:Nat):Tryz.prog.built 39 [(0,.string m),(1,.int .i64 c),(2,.int .i64 f),(3,.int .i64 t),(4,.int .i64 a),(5,.int .i64 l),(6,.slice A n d)]=some #[.string m,.int .i64 c,.int .i64 f,.int .i64 t,.int .i64 a,.int .i64 l,.slice A n d]:=by kernel_rfl
theorem rd_sub {W:World}{B off:Nat}{R:List Nm3}(hbb:B<W.heap.size)(hc:∀j u,(R.flatMap Nm3.cs)[j]? =some u→W.cell? ⟨B,off+j,none⟩=some u)(a m:Nat)(ha:a≤R.length):Rd W (some ⟨B,off+a*3,none⟩) (((R.drop a).take m).flatMap Nm3.cs):=by
 refine .inr ⟨B,off+a*3,rfl,hbb,fun j u hj=> ?_⟩;rw[Nat.add_assoc];refine hc _ _ ?_;have e:R.flatMap Nm3.cs=(R.take a).flatMap Nm3.cs++(((R.drop a).take m).flatMap Nm3.cs++((R.drop a).drop m).flatMap Nm3.cs):=by rw[←List.flatMap_append,←List.flatMap_append,List.take_append_drop,List.take_append_drop]
 have hl:((R.take a).flatMap Nm3.cs).length=a*3:=by rw[Z0x Nm3.cs 3 (fun _=>rfl),List.length_take,Nat.min_eq_left ha]
 rw[e,List.getElem?_append_right (by omega),hl,Nat.add_sub_cancel_left]
 have hlt:j<(((R.drop a).take m).flatMap Nm3.cs).length:=by
  rcases Nat.lt_or_ge j (((R.drop a).take m).flatMap Nm3.cs).length with h|h
  · exact h
  · rw[List.getElem?_eq_none h]at hj;cases hj
 rw[List.getElem?_append_left hlt];exact hj
theorem nms_sub {W:World}{f:Int→Rat}{R:List Nm3}(h:Z6r W f R)(a m:Nat):Z6r W (fun i=>f (i+a)) ((R.drop a).take m):=fun k hk=>by
 rw[List.getElem_take,List.getElem_drop];have hl:a+k<R.length:=by rw[List.length_take,List.length_drop]at hk;omega
 have:=h (a+k) hl;show Z0d W R[a+k].v (f ((k:Int)+a));rw[show(k:Int)+a=((a+k:Nat):Int) by omega];exact this
def prtF (w0:World)(g gr:Nat)(xm:ByteArray)(xc xf xt xa xl s1 s2 a b ln:Int)(EV:Value)(B off n cc an bn pn:Nat)(PS:List Pnt):List Go.Dwo.Fact:= [
 ⟨[],[],fun _ W=>Gq w0 W⟩,
 ⟨[],[],fun _ W=>Blk W g 39 [.string xm,.int .i64 xc,.int .i64 xf,.int .i64 xt,.int .i64 xa,.int .i64 xl,EV]⟩,
 ⟨[],[23],fun _ W=>Blk W gr 39 [.string ⟨#[]⟩,.int .i64 0,.int .i64 0,.int .i64 0,.int .i64 0,.int .i64 0,.slice none 0 0]⟩,
 ⟨[0],[],fun vs _=>vs 0= .pointer (some ⟨g,0,none⟩)⟩,
 ⟨[1],[],fun vs _=>vs 1= .string xm⟩,
 ⟨[2],[],fun vs _=>vs 2= .pointer (some ⟨g,1,none⟩)⟩,
 ⟨[3],[],fun vs _=>vs 3= .int .i64 xc⟩,
 ⟨[4],[],fun vs _=>vs 4= .pointer (some ⟨g,2,none⟩)⟩,
 ⟨[5],[],fun vs _=>vs 5= .int .i64 xf⟩,
 ⟨[6],[],fun vs _=>vs 6= .int .i64 a⟩,
 ⟨[7],[],fun vs _=>vs 7= .int .i64 s1⟩,
 ⟨[8],[],fun vs _=>vs 8= .pointer (some ⟨g,3,none⟩)⟩,
 ⟨[9],[],fun vs _=>vs 9= .int .i64 xt⟩,
 ⟨[10],[],fun vs _=>vs 10= .pointer (some ⟨g,4,none⟩)⟩,
 ⟨[11],[],fun vs _=>vs 11= .int .i64 xa⟩,
 ⟨[12],[],fun vs _=>vs 12= .int .i64 a⟩,
 ⟨[13],[],fun vs _=>vs 13= .int .i64 s2⟩,
 ⟨[14],[],fun vs _=>vs 14= .int .i64 b⟩,
 ⟨[15],[],fun vs _=>vs 15= .int .i64 a⟩,
 ⟨[16],[],fun vs _=>vs 16= .int .i64 ln⟩,
 ⟨[17],[],fun vs _=>vs 17= .slice (some ⟨B,off,none⟩) n cc⟩,
 ⟨[18],[],fun vs _=>vs 18= .int .i64 a⟩,
 ⟨[19],[],fun vs _=>vs 19= .int .i64 b⟩,
 ⟨[20],[],fun vs _=>vs 20= .slice (some ⟨B,off+an*3,none⟩) (bn - an) (cc - an)⟩,
 ⟨[21],[],fun vs W=>∃A c,vs 21= .slice A pn c∧RdT 61 W A (PS.flatMap Pnt.cs)⟩,
 ⟨[21,22],[],fun vs _=>vs 22= .agg #[.string xm,.int .i64 xc,.int .i64 s1,.int .i64 xt,.int .i64 s2,.int .i64 ln,vs 21]⟩,
 ⟨[21,23],[],fun vs W=>∃A c,vs 21= .slice A pn c∧Blk W gr 39 [.string xm,.int .i64 xc,.int .i64 s1,.int .i64 xt,.int .i64 s2,.int .i64 ln,.slice A pn c]∧RdT 61 W A (PS.flatMap Pnt.cs)⟩]
theorem prtK (w0:World)(g gr:Nat)(xm:ByteArray)(xc xf xt xa xl s1 s2 a b ln:Int)(EV:Value)(B off n cc an bn pn:Nat)(PS:List Pnt):∀f∈prtF w0 g gr xm xc xf xt xa xl s1 s2 a b ln EV B off n cc an bn pn PS,∀vs w w',Gq w w'→f.says vs w→f.says vs w':=
 fcL (fun _ _ _ hg h=>h.trans hg)<|fcL (fun _ _ _ hg h=>Z0o h hg)<|fcL (fun _ _ _ hg h=>Z0o h hg)<|fcL (fun _ _ _ _ h=>h)<|fcL (fun _ _ _ _ h=>h)<|fcL (fun _ _ _ _ h=>h)<|fcL (fun _ _ _ _ h=>h)<|fcL (fun _ _ _ _ h=>h)<|fcL (fun _ _ _ _ h=>h)<|fcL (fun _ _ _ _ h=>h)<|fcL (fun _ _ _ _ h=>h)<|fcL (fun _ _ _ _ h=>h)<|fcL (fun _ _ _ _ h=>h)<|fcL (fun _ _ _ _ h=>h)<|fcL (fun _ _ _ _ h=>h)<|fcL (fun _ _ _ _ h=>h)<|fcL (fun _ _ _ _ h=>h)<|fcL (fun _ _ _ _ h=>h)<|fcL (fun _ _ _ _ h=>h)<|fcL (fun _ _ _ _ h=>h)<|fcL (fun _ _ _ _ h=>h)<|fcL (fun _ _ _ _ h=>h)<|fcL (fun _ _ _ _ h=>h)<|fcL (fun _ _ _ _ h=>h)<|fcL (fun _ _ _ hg h=>(by obtain⟨A,c,h1,h2⟩:=h;exact⟨A,c,h1,h2.below hg⟩))<|fcL (fun _ _ _ _ h=>h)<|fcL (fun _ _ _ hg h=>(by obtain⟨A,c,h1,h2,h3⟩:=h;exact⟨A,c,h1,Z0o h2 hg,h3.below hg⟩))<|fcN _
theorem Zfs (x:CliM)(a b:Int)(A:Option Addr)(cc:Nat)(RR:List Nm3)(fq:Int→Rat)(n:Nat)(w0:World)(hx:CliOk w0 x)(hr:Rd w0 A (RR.flatMap Nm3.cs))(hq:Z6r w0 fq RR)(hlen:RR.length=n)(hn:n≤100000)(hnc:n≤cc)(hab:0≤a∧a<b∧b≤n)(hlim:∀i:Nat,i<n→Z0i 40 (fq i))(hfr:(0≤x.fr∧x.fr≤10000000100000)∧0≤x.at_∧x.at_≤100000)(hp:HasPow w0):
  Calls Tryz.prog 65 #[x.v,.int .i64 a,.int .i64 b,.slice A n cc] w0 fun e w'=>∃y:CliM,e= .returned y.v∧y.x=⟨x.m,x.ch,x.fr+a,x.tr,x.at_+a,b - a,Z5g (fun i=>fq (i+a)) (b - a).toNat⟩∧Z1z w' y∧Gq w0 w':=by
 obtain⟨b0,hb0⟩:∃b,w0.heap.size=b:=⟨_,rfl⟩;obtain⟨an,rfl⟩:∃k:Nat,a=(k:Int):=⟨a.toNat,by omega⟩;obtain⟨bn,rfl⟩:∃k:Nat,b=(k:Int):=⟨b.toNat,by omega⟩;obtain⟨B,off,rfl,hbb,hcs⟩:=Rd.at_ hr (by rw[Z0x Nm3.cs 3 (fun _=>rfl)];omega);obtain⟨wa,hwa⟩:∃wa,wa=w0.alloc (.cells #[.string x.m,.int .i64 x.ch,.int .i64 x.fr,.int .i64 x.tr,.int .i64 x.at_,.int .i64 x.ln,.slice x.e.a x.e.xs.length x.e.c] 39):=⟨_,rfl⟩;obtain⟨w1,hw1⟩:∃w1,w1=wa.alloc (.cells #[.string ⟨#[]⟩,.int .i64 0,.int .i64 0,.int .i64 0,.int .i64 0,.int .i64 0,.slice none 0 0] 39):=⟨_,rfl⟩;have hga:Gq w0 wa:=by rw[hwa];exact(Gq.refl _).alloc _
 have hgb:Gq wa w1:=by rw[hw1];exact(Gq.refl _).alloc _
 have hza:wa.heap.size=b0+1:=by rw[hwa];simp;omega
 have HG:Hid (Gq w0 w1):=hga.trans hgb;obtain⟨PS,hPS⟩:∃PS,Z5g (fun i=>fq (i+an)) (bn - an)=PS:=⟨_,rfl⟩;obtain⟨pn,hpn⟩:∃k,PS.length=k:=⟨_,rfl⟩;have HPN:Hid (PS.length=pn):=hpn;have HPL:Hid (∀W,Gq w0 W→Calls Tryz.prog 54 #[.slice (some ⟨B,off+an*3,none⟩) (bn - an) (cc - an)] W (PlnR PS W)):=fun W hW=>by have hg:Gq w0 W:=hW;rw[←hPS];refine Zch (some ⟨B,off+an*3,none⟩) (cc - an) ((RR.drop an).take (bn - an)) (fun i=>fq (i+an)) 40 (bn - an) W (rd_sub (Nat.lt_of_lt_of_le hbb (Below.size hg)) (fun j u hj=>by rw[Below.cell hg (by exact hbb)];exact hcs j u hj) an (bn - an) (by omega)) (nms_sub (hq.gq hg) an (bn - an)) (by rw[List.length_take,List.length_drop];omega) (by omega) (fun i hi=> ?_) (by decide) (hp.below hg);have:=hlim (an+i) (by omega);rw[show(i:Int)+an=((an+i:Nat):Int) by omega];exact this
 obtain⟨s3,hs3⟩:∃s,(bn:Int) - (an:Int)=s:=⟨_,rfl⟩
 have HEND:Hid (∀(A:Option Addr) (c:Nat) (W:World),Gq w0 W→RdT 61 W A (PS.flatMap Pnt.cs)→∃y:CliM,Ending.returned (.agg #[.string x.m,.int .i64 x.ch,.int .i64 (x.fr+an),.int .i64 x.tr,.int .i64 (x.at_+an),.int .i64 s3,.slice A pn c])= .returned y.v∧y.x=⟨x.m,x.ch,x.fr+an,x.tr,x.at_+an,(bn:Int) - an,Z5g (fun i=>fq (i+an)) ((bn:Int) - an).toNat⟩∧Z1z W y∧Gq w0 W):=fun A c W hW hR=>by
  have hg:Gq w0 W:=hW;refine⟨⟨x.m,x.ch,x.fr+an,x.tr,x.at_+an,s3,⟨A,c,PS⟩⟩,by rw[←hpn];rfl, ?_,⟨⟨hx.m,hx.ch,by unfold Z0l;show _≤x.fr+(an:Int)∧x.fr+(an:Int)≤_;omega,hx.tr,by unfold Z0l;show _≤x.at_+(an:Int)∧x.at_+(an:Int)≤_;omega,by unfold Z0l;show _≤s3∧s3≤_;omega, ?_,hR.rd, ?_⟩,hR⟩,hg⟩
  · rw[←hs3,show((bn:Int) - an).toNat=bn - an by omega,hPS];rfl
  · show PS.length≤_;rw[←hPS];have:=Zbi (fun i=>fq (i+an)) (bn - an);omega
  · show∀p∈PS,Zbu p;rw[←hPS];intro p hp;obtain⟨i,hi,rfl⟩:=List.mem_map.1 hp;obtain⟨h1,h2⟩:=Z7k (by omega) hi;refine Zf4 (k:=40) ?_ (by decide) (by unfold Z0l;omega);have:=hlim (an+i.toNat) (by omega);rw[show i+(an:Int)=((an+i.toNat:Nat):Int) by omega];exact this
 obtain⟨s1,hs1⟩:∃s,x.fr+an=s:=⟨_,rfl⟩;obtain⟨s2,hs2⟩:∃s,x.at_+an=s:=⟨_,rfl⟩;have HWR:Hid (IntKind.i64.wrap (x.fr+an)=s1∧IntKind.i64.wrap (x.at_+an)=s2∧IntKind.i64.wrap ((bn:Int) - an)=s3):=⟨by rw[←hs1];exact IntWalk.i64_in _ (by omega),by rw[←hs2];exact IntWalk.i64_in _ (by omega),by rw[←hs3];exact IntWalk.i64_in _ (by omega)⟩;have HSL:Hid ((0:Int)≤(bn:Int)∧(bn:Int)≤(cc:Int)∧an≤bn∧¬cc=an):=⟨by omega,by omega,by omega,by omega⟩;rw[hs1,hs2]at HEND;rw[hs1,hs2];have HBASE:Hid (Gq w0 w1.drew):=HG.o.drew;have HBC:Hid (Blk w1.drew b0 39 [.string x.m,.int .i64 x.ch,.int .i64 x.fr,.int .i64 x.tr,.int .i64 x.at_,.int .i64 x.ln,.slice x.e.a x.e.xs.length x.e.c]):=by refine Z0o (?_:Blk wa b0 _ _) (hgb.drew);rw[hwa,←hb0];exact Blk.new w0 _ _
 have HBR:Hid (Blk w1.drew (b0+1) 39 [.string ⟨#[]⟩,.int .i64 0,.int .i64 0,.int .i64 0,.int .i64 0,.int .i64 0,.slice none 0 0]):=by refine Z0o (?_:Blk w1 (b0+1) _ _) (Gq.refl _).drew;rw[hw1,←hza];exact Blk.new wa _ _
 have HGR:Hid (w0.heap.size≤b0+1∧b0≠b0+1):=⟨by omega,by omega⟩;obtain⟨Q,hQ⟩:∃Q:Ending→World→Prop,(fun e w'=>∃y:CliM,e= .returned y.v∧y.x=⟨x.m,x.ch,s1,x.tr,s2,(bn:Int) - an,Z5g (fun i=>fq (i+an)) ((bn:Int) - an).toNat⟩∧Z1z w' y∧Gq w0 w')=Q:=⟨_,rfl⟩;rw[hwa]at hw1;have HW1:=Za hw1;obtain⟨xm,xc,xf,xt,xa,xl,⟨EA,ed,es⟩⟩:=x;simp only[CliM.v,Slc.v];simp only at HEND HBC HW1 HWR;obtain⟨EV,hEV⟩:∃E,Value.slice EA es.length ed=E:=⟨_,rfl⟩;rw[hEV]at HBC HW1⊢;clear hs3 hwa hga hgb hza hx hr hq hlen hn hnc hab hlim hfr hp hbb hcs hPS hpn hs1 hs2 hw1 hQ hEV;go_enter Tryz.func65,Tryz.ntmps65;go_upto_region 1 with(fail);rw[←HW1.o];try simp only[hb0]
 clear hb0 HW1;refine Z00 _ (by kernel_rfl) [[],[0],[],[2],[],[4],[],[4,5,6],[],[8],[],[10],[],[10,11,12],[],[],[14,15],[],[],[],[17,18,19],[17,18,19,20],[0,1,2,3,4,5,6,7,8,9,10,11,12,13,14,15,16,17,18,19,20,21],[0,1,2,3,4,5,6,7,8,9,10,11,12,13,14,15,16,17,18,19,20,21,22]] (by kernel_rfl) (by kernel_rfl) [some 9,some 10,some 11,some 12,some 13,some 14,some 15,some 16,some 17,some 18,some 19,some 20,some 21,some 22,some 23,some 24,some 25,some 26,some 27,some 28,some 29,some 30,some 31,none] (by kernel_rfl) (fun vs=>by simp only[Go.Dwo.putA,Go.Dwo.putL,if_true,Act.put,Zb,Zc,Zd];rfl) (prtF w0 b0 (b0+1) xm xc xf xt xa xl s1 s2 (an:Int) (bn:Int) s3 EV B off n cc an bn pn PS) (by kernel_rfl) ?_ ⟨?_, ?_, ?_, ?_, ?_, ?_, ?_, ?_, ?_, ?_, ?_, ?_, ?_, ?_, ?_, ?_, ?_, ?_, ?_, ?_, ?_, ?_, ?_, ?_,trivial⟩ ?_
 · exact fcZ [0,1,2] rfl<|fcL (HBASE.o)<|fcL (HBC.o)<|fcL (HBR.o)<|fcN _
 · intro Ls vs w Kk H hu hD hK;go_simp;exact fcV hK (fcP 3 rfl rfl fun _=>rfl)
 · intro Ls vs w Kk H hu hD hK;have kb:Blk w b0 39 [.string xm,.int .i64 xc,.int .i64 xf,.int .i64 xt,.int .i64 xa,.int .i64 xl,EV]:=fcG H hu hD 1 rfl rfl rfl;have f0:vs 0= .pointer (some ⟨b0,0,none⟩):=fcG H hu hD 3 rfl rfl rfl;have y0:w.cell? ⟨b0,0,none⟩=_:=kb.cell 0;simp only[Ze]at y0;go_simp;exact fcV hK (fcP 4 rfl rfl fun _=>rfl)
 · intro Ls vs w Kk H hu hD hK;go_simp;exact fcV hK (fcP 5 rfl rfl fun _=>rfl)
 · intro Ls vs w Kk H hu hD hK;have kb:Blk w b0 39 [.string xm,.int .i64 xc,.int .i64 xf,.int .i64 xt,.int .i64 xa,.int .i64 xl,EV]:=fcG H hu hD 1 rfl rfl rfl;have f2:vs 2= .pointer (some ⟨b0,1,none⟩):=fcG H hu hD 5 rfl rfl rfl;have y1:w.cell? ⟨b0,1,none⟩=_:=kb.cell 1;simp only[Ze,Zf]at y1;go_simp;exact fcV hK (fcP 6 rfl rfl fun _=>rfl)
 · intro Ls vs w Kk H hu hD hK;go_simp;exact fcV hK (fcP 7 rfl rfl fun _=>rfl)
 · intro Ls vs w Kk H hu hD hK;have kb:Blk w b0 39 [.string xm,.int .i64 xc,.int .i64 xf,.int .i64 xt,.int .i64 xa,.int .i64 xl,EV]:=fcG H hu hD 1 rfl rfl rfl;have f4:vs 4= .pointer (some ⟨b0,2,none⟩):=fcG H hu hD 7 rfl rfl rfl;have y2:w.cell? ⟨b0,2,none⟩=_:=kb.cell 2;simp only[Ze,Zf]at y2;go_simp;exact fcV hK (fcP 8 rfl rfl fun _=>rfl)
 · intro Ls vs w Kk H hu hD hK;go_simp;exact fcV hK (fcP 9 rfl rfl fun _=>rfl)
 · intro Ls vs w Kk H hu hD hK;have f5:vs 5= .int .i64 xf:=fcG H hu hD 8 rfl rfl rfl;have f6:vs 6= .int .i64 (an:Int):=fcG H hu hD 9 rfl rfl rfl;have hw1:=HWR.o.1;go_simp;exact fcV hK (fcP 10 rfl rfl fun _=>rfl)
 · intro Ls vs w Kk H hu hD hK;go_simp;exact fcV hK (fcP 11 rfl rfl fun _=>rfl)
 · intro Ls vs w Kk H hu hD hK;have kb:Blk w b0 39 [.string xm,.int .i64 xc,.int .i64 xf,.int .i64 xt,.int .i64 xa,.int .i64 xl,EV]:=fcG H hu hD 1 rfl rfl rfl;have f8:vs 8= .pointer (some ⟨b0,3,none⟩):=fcG H hu hD 11 rfl rfl rfl;have y3:w.cell? ⟨b0,3,none⟩=_:=kb.cell 3;simp only[Ze,Zf]at y3;go_simp;exact fcV hK (fcP 12 rfl rfl fun _=>rfl)
 · intro Ls vs w Kk H hu hD hK;go_simp;exact fcV hK (fcP 13 rfl rfl fun _=>rfl)
 · intro Ls vs w Kk H hu hD hK;have kb:Blk w b0 39 [.string xm,.int .i64 xc,.int .i64 xf,.int .i64 xt,.int .i64 xa,.int .i64 xl,EV]:=fcG H hu hD 1 rfl rfl rfl;have f10:vs 10= .pointer (some ⟨b0,4,none⟩):=fcG H hu hD 13 rfl rfl rfl;have y4:w.cell? ⟨b0,4,none⟩=_:=kb.cell 4;simp only[Ze,Zf]at y4;go_simp;exact fcV hK (fcP 14 rfl rfl fun _=>rfl)
 · intro Ls vs w Kk H hu hD hK;go_simp;exact fcV hK (fcP 15 rfl rfl fun _=>rfl)
 · intro Ls vs w Kk H hu hD hK;have f11:vs 11= .int .i64 xa:=fcG H hu hD 14 rfl rfl rfl;have f12:vs 12= .int .i64 (an:Int):=fcG H hu hD 15 rfl rfl rfl;have hw2:=HWR.o.2.1;go_simp;exact fcV hK (fcP 16 rfl rfl fun _=>rfl)
 · intro Ls vs w Kk H hu hD hK;go_simp;exact fcV hK (fcP 17 rfl rfl fun _=>rfl)
 · intro Ls vs w Kk H hu hD hK;go_simp;exact fcV hK (fcP 18 rfl rfl fun _=>rfl)
 · intro Ls vs w Kk H hu hD hK;have f14:vs 14= .int .i64 (bn:Int):=fcG H hu hD 17 rfl rfl rfl;have f15:vs 15= .int .i64 (an:Int):=fcG H hu hD 18 rfl rfl rfl;have hw3:=HWR.o.2.2;go_simp;exact fcV hK (fcP 19 rfl rfl fun _=>rfl)
 · intro Ls vs w Kk H hu hD hK;go_simp;exact fcV hK (fcP 20 rfl rfl fun _=>rfl)
 · intro Ls vs w Kk H hu hD hK;go_simp;exact fcV hK (fcP 21 rfl rfl fun _=>rfl)
 · intro Ls vs w Kk H hu hD hK;go_simp;exact fcV hK (fcP 22 rfl rfl fun _=>rfl)
 · intro Ls vs w Kk H hu hD hK;have f17:vs 17= .slice (some ⟨B,off,none⟩) n cc:=fcG H hu hD 20 rfl rfl rfl;have f18:vs 18= .int .i64 (an:Int):=fcG H hu hD 21 rfl rfl rfl;have f19:vs 19= .int .i64 (bn:Int):=fcG H hu hD 22 rfl rfl rfl;obtain⟨i0,i1,i2,i3⟩:=HSL.o;go_simp;exact fcV hK (fcP 23 rfl rfl fun _=>rfl)
 · intro Ls vs w Kk H hu hD hK;have h0:Gq w0 w:=fcG H hu hD 0 rfl rfl rfl;have f20:vs 20= .slice (some ⟨B,off+an*3,none⟩) (bn - an) (cc - an):=fcG H hu hD 23 rfl rfl rfl;go_simp;refine(HPL.o w h0).mono ?_;rintro e w' ⟨hb,A',c',rfl,ho⟩;exact⟨_,rfl,fcC hK (fun f hf _ h=>prtK w0 b0 (b0+1) xm xc xf xt xa xl s1 s2 (an:Int) (bn:Int) s3 EV B off n cc an bn pn PS f hf _ _ _ hb h) (fcK [24,25,26] rfl<|fcL (fun _=>⟨A',c',by rw[←HPN.o];rfl,RdT.of_own ho⟩)<|fcL (fun hL=>absurd (show(21:Nat)∈([0,1,2,3,4,5,6,7,8,9,10,11,12,13,14,15,16,17,18,19,20,21]:List Nat)from by decide) (hL 22 (show(22:Nat)∈([21,22]:List Nat)from by decide) (show(22:Nat)≠21 from by decide)).2)<|fcL (fun hL=>absurd (show(21:Nat)∈([0,1,2,3,4,5,6,7,8,9,10,11,12,13,14,15,16,17,18,19,20,21,22]:List Nat)from by decide) (hL 23 (show(23:Nat)∈([21,23]:List Nat)from by decide) (show(23:Nat)≠21 from by decide)).2)<|fcN _)⟩
 · intro Ls vs w Kk H hu hD hK;have f1:vs 1= .string xm:=fcG H hu hD 4 rfl rfl rfl;have f3:vs 3= .int .i64 xc:=fcG H hu hD 6 rfl rfl rfl;have f7:vs 7= .int .i64 s1:=fcG H hu hD 10 rfl rfl rfl;have f9:vs 9= .int .i64 xt:=fcG H hu hD 12 rfl rfl rfl;have f13:vs 13= .int .i64 s2:=fcG H hu hD 16 rfl rfl rfl;have f16:vs 16= .int .i64 s3:=fcG H hu hD 19 rfl rfl rfl;obtain⟨A1,c1,e21,r1⟩:∃A c,vs 21= .slice A pn c∧RdT 61 w A (PS.flatMap Pnt.cs):=fcG H hu hD 24 rfl rfl rfl;have hrun:=run_build (P:=Tryz.prog) w 39 _ _ (builtCl xm xc s1 xt s2 s3 A1 pn c1);go_simp;exact fcV hK (fcP 25 rfl rfl fun _=>(by rw[←e21];rfl))
 · intro Ls vs w Kk H hu hD hK;have kr:Blk w (b0+1) 39 [.string ⟨#[]⟩,.int .i64 0,.int .i64 0,.int .i64 0,.int .i64 0,.int .i64 0,.slice none 0 0]:=fcG H hu hD 2 rfl rfl rfl;obtain⟨A1,c1,e21,r1⟩:∃A c,vs 21= .slice A pn c∧RdT 61 w A (PS.flatMap Pnt.cs):=fcG H hu hD 24 rfl rfl rfl;have f22:vs 22= .agg #[.string xm,.int .i64 xc,.int .i64 s1,.int .i64 xt,.int .i64 s2,.int .i64 s3,vs 21]:=fcG H hu hD 25 rfl rfl rfl;have HDD:=Za (fcD hD [23] rfl);rw[e21]at f22;have d0:w.cell? ⟨(b0+1),0,none⟩=_:=kr.cell 0;have z0:=kr.frozen 0;have d1:w.cell? ⟨(b0+1),1,none⟩=_:=kr.cell 1;have z1:=kr.frozen 1;have d2:w.cell? ⟨(b0+1),2,none⟩=_:=kr.cell 2;have z2:=kr.frozen 2;have d3:w.cell? ⟨(b0+1),3,none⟩=_:=kr.cell 3;have z3:=kr.frozen 3;have d4:w.cell? ⟨(b0+1),4,none⟩=_:=kr.cell 4;have z4:=kr.frozen 4;have d5:w.cell? ⟨(b0+1),5,none⟩=_:=kr.cell 5;have z5:=kr.frozen 5;have d6:w.cell? ⟨(b0+1),6,none⟩=_:=kr.cell 6;have z6:=kr.frozen 6;simp only[Ze,Zf]at d0 d1 d2 d3 d4 d5 d6;go_simp;have HST:=Za (Z1o [.string xm,.int .i64 xc,.int .i64 s1,.int .i64 xt,.int .i64 s2,.int .i64 s3,.slice A1 pn c1] kr rfl);refine hK.out _ _ (fcL (fun _ _ _ h=>Z0t HGR.o.1 [.string xm,.int .i64 xc,.int .i64 s1,.int .i64 xt,.int .i64 s2,.int .i64 s3,.slice A1 pn c1] w 0 h)<|fcL (fun _ _ _ h=>(Z4i [.string xm,.int .i64 xc,.int .i64 s1,.int .i64 xt,.int .i64 s2,.int .i64 s3,.slice A1 pn c1] w 0 b0 HGR.o.2).trans h)<|fcL (fun _ hn _ _=>absurd (show(23:Nat)∈([23]:List Nat)from by decide) hn)<|fcL (fun _ _ _ h=>h)<|fcL (fun _ _ _ h=>h)<|fcL (fun _ _ _ h=>h)<|fcL (fun _ _ _ h=>h)<|fcL (fun _ _ _ h=>h)<|fcL (fun _ _ _ h=>h)<|fcL (fun _ _ _ h=>h)<|fcL (fun _ _ _ h=>h)<|fcL (fun _ _ _ h=>h)<|fcL (fun _ _ _ h=>h)<|fcL (fun _ _ _ h=>h)<|fcL (fun _ _ _ h=>h)<|fcL (fun _ _ _ h=>h)<|fcL (fun _ _ _ h=>h)<|fcL (fun _ _ _ h=>h)<|fcL (fun _ _ _ h=>h)<|fcL (fun _ _ _ h=>h)<|fcL (fun _ _ _ h=>h)<|fcL (fun _ _ _ h=>h)<|fcL (fun _ _ _ h=>h)<|fcL (fun _ _ _ h=>h)<|fcL (fun _ _ _ h=>(by obtain⟨A,c,h1,h2⟩:=h;exact⟨A,c,h1,h2.kp (Z2a [.string xm,.int .i64 xc,.int .i64 s1,.int .i64 xt,.int .i64 s2,.int .i64 s3,.slice A1 pn c1] kr (by decide) 0)⟩))<|fcL (fun _ _ _ h=>h)<|fcL (fun hn _ _ _=>absurd (show(23:Nat)∈([21,23]:List Nat)from by decide) hn)<|fcN _) ?_;exact fcP 26 rfl rfl fun _=>⟨A1,c1,e21,HST.o,r1.kp (Z2a [.string xm,.int .i64 xc,.int .i64 s1,.int .i64 xt,.int .i64 s2,.int .i64 s3,.slice A1 pn c1] kr (by decide) 0)⟩
 · intro vs w H;have h0:Gq w0 w:=fcE H 0 rfl rfl;obtain⟨A3,c3,e23,k3,r3⟩:∃A c,vs 21= .slice A pn c∧Blk w (b0+1) 39 [.string xm,.int .i64 xc,.int .i64 s1,.int .i64 xt,.int .i64 s2,.int .i64 s3,.slice A pn c]∧RdT 61 w A (PS.flatMap Pnt.cs):=fcE H 26 rfl rfl;clear H;simp only[Nat.zero_add,Nat.reduceAdd];have HG2:Hid (Gq w0 w):=h0;have HK2:=Za k3;have HR2:=Za r3;clear h0 k3 r3;have x0:w.cell? ⟨(b0+1),0,none⟩=some _:=HK2.o.cell 0;have x1:w.cell? ⟨(b0+1),1,none⟩=some _:=HK2.o.cell 1;have x2:w.cell? ⟨(b0+1),2,none⟩=some _:=HK2.o.cell 2;have x3:w.cell? ⟨(b0+1),3,none⟩=some _:=HK2.o.cell 3;have x4:w.cell? ⟨(b0+1),4,none⟩=some _:=HK2.o.cell 4;have x5:w.cell? ⟨(b0+1),5,none⟩=some _:=HK2.o.cell 5;have x6:w.cell? ⟨(b0+1),6,none⟩=some _:=HK2.o.cell 6;have HFIN:=Za (HEND.o A3 c3 w HG2.o HR2.o);clear e23;go_wp2_with fail;show bodyPost Tryz.prog Tryz.f65 _ _ _ _;exact bodyPost_ret (v:= .agg #[.string xm,.int .i64 xc,.int .i64 s1,.int .i64 xt,.int .i64 s2,.int .i64 s3,.slice A3 pn c3]) (by simp[results,Tryz.results65,go_sem,x0,x1,x2,x3,x4,x5,x6]) rfl HFIN.o
def CtrR (x:CliM)(l:List Cli)(w:World)(e:Ending)(w':World):Prop:=
 Gq w w'∧∃s:Slc CliM,e= .returned s.v∧s.xs.map CliM.x=l∧w'.ownsRow w.heap.size 39 7 s.v s.xs.length (s.xs.flatMap CliM.cs)∧∀y∈s.xs,y=x∨Z1z w' y
def ctrF (w2:World)(b0:Nat)(xm:ByteArray)(xc xf xt xa xl p d:Int)(EV:Value)(A:Option Addr)(n c:Nat)(PX PY:Cli):List Go.Dwo.Fact:= [
 ⟨[],[],fun _ W=>Gq w2 W⟩,
 ⟨[],[],fun _ W=>Blk W b0 39 [.string xm,.int .i64 xc,.int .i64 xf,.int .i64 xt,.int .i64 xa,.int .i64 xl,EV]⟩,
 ⟨[0],[],fun vs _=>vs 0= .agg #[.string xm,.int .i64 xc,.int .i64 xf,.int .i64 xt,.int .i64 xa,.int .i64 xl,EV]⟩,
 ⟨[1],[],fun vs _=>vs 1= .int .i64 p⟩,
 ⟨[2],[],fun vs _=>vs 2= .pointer (some ⟨b0,4,none⟩)⟩,
 ⟨[3],[],fun vs _=>vs 3= .int .i64 xa⟩,
 ⟨[4],[],fun vs _=>vs 4= .int .i64 d⟩,
 ⟨[5],[],fun vs _=>vs 5= .slice A n c⟩,
 ⟨[6],[],fun vs W=>∃y:CliM,vs 6= .agg #[.string y.m,.int .i64 y.ch,.int .i64 y.fr,.int .i64 y.tr,.int .i64 y.at_,.int .i64 y.ln,.slice y.e.a y.e.xs.length y.e.c]∧y.x=PX∧Z1z W y⟩,
 ⟨[7],[],fun vs _=>vs 7= .agg #[.string xm,.int .i64 xc,.int .i64 xf,.int .i64 xt,.int .i64 xa,.int .i64 xl,EV]⟩,
 ⟨[8],[],fun vs _=>vs 8= .int .i64 p⟩,
 ⟨[9],[],fun vs _=>vs 9= .pointer (some ⟨b0,4,none⟩)⟩,
 ⟨[10],[],fun vs _=>vs 10= .int .i64 xa⟩,
 ⟨[11],[],fun vs _=>vs 11= .int .i64 d⟩,
 ⟨[12],[],fun vs _=>vs 12= .pointer (some ⟨b0,5,none⟩)⟩,
 ⟨[13],[],fun vs _=>vs 13= .int .i64 xl⟩,
 ⟨[14],[],fun vs _=>vs 14= .slice A n c⟩,
 ⟨[15],[],fun vs W=>∃y:CliM,vs 15= .agg #[.string y.m,.int .i64 y.ch,.int .i64 y.fr,.int .i64 y.tr,.int .i64 y.at_,.int .i64 y.ln,.slice y.e.a y.e.xs.length y.e.c]∧y.x=PY∧Z1z W y⟩,
 ⟨[16],[],fun vs W=>∃(g:Nat) (y z:CliM),vs 16= .slice (some ⟨g,0,none⟩) 2 2∧W.ownsRow b0 39 7 (.slice (some ⟨g,0,none⟩) 2 2) 2 (([y,z]:List CliM).flatMap CliM.cs)∧(y.x=PX∧z.x=PY)∧Z1z W y∧Z1z W z⟩,
 ⟨[16,17],[],fun vs _=>vs 17=vs 16⟩]
theorem ctrK (w2:World)(b0:Nat)(xm:ByteArray)(xc xf xt xa xl p d:Int)(EV:Value)(A:Option Addr)(n c:Nat)(PX PY:Cli):∀f∈ctrF w2 b0 xm xc xf xt xa xl p d EV A n c PX PY,∀vs w w',Gq w w'→f.says vs w→f.says vs w':=
 fcL (fun _ _ _ hg h=>h.trans hg)<|fcL (fun _ _ _ hg h=>Z0o h hg)<|fcL (fun _ _ _ _ h=>h)<|fcL (fun _ _ _ _ h=>h)<|fcL (fun _ _ _ _ h=>h)<|fcL (fun _ _ _ _ h=>h)<|fcL (fun _ _ _ _ h=>h)<|fcL (fun _ _ _ _ h=>h)<|fcL (fun _ _ _ hg h=>(by obtain⟨y,h1,h2,h3⟩:=h;exact⟨y,h1,h2,h3.gq hg⟩))<|fcL (fun _ _ _ _ h=>h)<|fcL (fun _ _ _ _ h=>h)<|fcL (fun _ _ _ _ h=>h)<|fcL (fun _ _ _ _ h=>h)<|fcL (fun _ _ _ _ h=>h)<|fcL (fun _ _ _ _ h=>h)<|fcL (fun _ _ _ _ h=>h)<|fcL (fun _ _ _ _ h=>h)<|fcL (fun _ _ _ hg h=>(by obtain⟨y,h1,h2,h3⟩:=h;exact⟨y,h1,h2,h3.gq hg⟩))<|fcL (fun _ _ _ hg h=>(by obtain⟨g,y,z,h1,h2,h3,h4,h5⟩:=h;exact⟨g,y,z,h1,Z04 h2 hg,h3,h4.gq hg,h5.gq hg⟩))<|fcL (fun _ _ _ _ h=>h)<|fcN _
theorem cutR_any (x:CliM)(p:Int)(w:World)(hx:CliOk w x)(hV:Z6s x.x)(hpw:HasPow w):
  Calls Tryz.prog 40 #[x.v,.int .i64 p] w (CtrR x (Z2b p x.x) w):=by
 obtain⟨b0,hb0⟩:∃b,w.heap.size=b:=⟨_,rfl⟩;obtain⟨wz,hwz⟩:∃wz,wz=w.alloc (.cells #[.string x.m,.int .i64 x.ch,.int .i64 x.fr,.int .i64 x.tr,.int .i64 x.at_,.int .i64 x.ln,.slice x.e.a x.e.xs.length x.e.c] 39):=⟨_,rfl⟩;have hg:Gq w wz:=by rw[hwz];exact(Gq.refl _).alloc _
 have HG:=Za hg;have HZ:Hid (wz.heap.size=b0+1):=by show _=_;rw[hwz];simp;omega
 have HKC:Hid (Blk wz b0 39 [.string x.m,.int .i64 x.ch,.int .i64 x.fr,.int .i64 x.tr,.int .i64 x.at_,.int .i64 x.ln,.slice x.e.a x.e.xs.length x.e.c]):=by rw[hwz,←hb0];exact Blk.new w _ _
 have hb:(1≤x.ln∧x.ln≤100000)∧(0≤x.fr∧x.fr≤10000000100000)∧0≤x.at_∧x.at_+x.ln≤100000:=hV.bnd;obtain⟨X,hX⟩:∃X,x.x=X:=⟨_,rfl⟩;obtain⟨n,hn⟩:∃n,x.ln.toNat=n:=⟨_,rfl⟩;obtain⟨fq,hfq⟩:∃fq,Z38 x.e.xs=fq:=⟨_,rfl⟩;have HVL:Hid (∀W,Gq wz W→Calls Tryz.prog 64 #[x.v] W (VlsR fq n W)):=fun W hW=>by rw[←hfq,←hn];exact vals_any x W (hx.below (hg.trans hW)) hV.env hb.1 (hpw.below (hg.trans hW))
 have HPA:Hid (∀(a b:Int) (A:Option Addr) (c:Nat) (R:List Nm3) (W:World),Gq wz W→(R.length=n∧n≤c)→Rd W A (R.flatMap Nm3.cs)→Z6r W fq R→(0≤a∧a<b∧b≤x.ln)→Calls Tryz.prog 65 #[x.v,.int .i64 a,.int .i64 b,.slice A n c] W fun e w'=>∃y:CliM,e= .returned y.v∧y.x=Z31 X a b∧Z1z w' y∧Gq W w'):=fun a b A c R W hW h1 h2 h3 h4=>by have h:=Zfs x a b A c R fq n W (hx.below (hg.trans hW)) h2 h3 h1.1 (by omega) h1.2 (by omega) (fun i hi=>by rw[←hfq];exact hV.lim (by omega) (by show(i:Int)<x.ln;omega)) (by omega) (hpw.below (hg.trans hW));rw[←hX];rw[←hfq]at h;exact h
 have HXL:Hid (X.at_=x.at_∧X.ln=x.ln∧(1≤x.ln∧x.ln≤100000)∧0≤x.at_∧x.at_+x.ln≤100000):=by rw[←hX];exact⟨rfl,rfl,hb.1,hb.2.2⟩
 obtain⟨L,hL⟩:∃L,Z2b p X=L:=⟨_,rfl⟩;have HFN1:Hid (p≤x.at_∨x.at_+x.ln≤p→ [x.x]=L):=fun h=>by rw[←hL];unfold Z2b;rw[if_pos (by rw[HXL.o.1,HXL.o.2.1];exact h),hX]
 have HFN0:Hid (¬(p≤x.at_∨x.at_+x.ln≤p)→ [Z31 X 0 (p - x.at_),Z31 X (p - x.at_) x.ln]=L):=fun h=>by rw[←hL];unfold Z2b;rw[if_neg (by rw[HXL.o.1,HXL.o.2.1];exact h),HXL.o.1,HXL.o.2.1]
 rw[hX,hL];obtain⟨q,hq⟩:∃q,CtrR x L w=q:=⟨_,rfl⟩;have HEND:Hid (∀(s:Slc CliM) (W:World),Gq w W→s.xs.map CliM.x=L→W.ownsRow b0 39 7 s.v s.xs.length (s.xs.flatMap CliM.cs)→(∀y∈s.xs,y=x∨Z1z W y)→q (.returned s.v) W):=fun s W h1 h2 h3 h4=>by rw[←hq];exact⟨h1,s,rfl,h2,by rw[hb0];exact h3,h4⟩
 rw[hq]
 have HSELF:Hid (∀W,Gq w W→(p≤x.at_∨x.at_+x.ln≤p)→q (.returned (.slice (some ⟨W.heap.size,0,none⟩) 1 1)) (W.alloc (.cells #[.string x.m,.int .i64 x.ch,.int .i64 x.fr,.int .i64 x.tr,.int .i64 x.at_,.int .i64 x.ln,.slice x.e.a x.e.xs.length x.e.c] 39))):=fun W hW h=>
  HEND.o ⟨some ⟨W.heap.size,0,none⟩,1,[x]⟩ _ (hW.alloc _) (HFN1.o h) (World.ownsRow_lit (base:=b0) (e:=39) (size:=7) W #[.string x.m,.int .i64 x.ch,.int .i64 x.fr,.int .i64 x.tr,.int .i64 x.at_,.int .i64 x.ln,.slice x.e.a x.e.xs.length x.e.c] 1 (by have:=Below.size hW;omega) (by decide) rfl) (fun y hy=> .inl (List.mem_singleton.1 hy))
 have HWZ:=Za hwz;clear hwz hg hx hV hb hX hn hfq hq hL HFN1 hpw;obtain⟨xm,xc,xf,xt,xa,xl,⟨EA,ed,es⟩⟩:=x;simp only[CliM.v,Slc.v]at HVL HPA⊢;simp only at HKC HXL HFN0 HPA HWZ HSELF;obtain⟨EV,hEV⟩:∃E,Value.slice EA es.length ed=E:=⟨_,rfl⟩;rw[hEV]at HKC HVL HPA HWZ HSELF⊢;clear hEV;have c0:wz.cell? ⟨b0,0,none⟩=some _:=HKC.o.cell 0;have c1:wz.cell? ⟨b0,1,none⟩=some _:=HKC.o.cell 1;have c2:wz.cell? ⟨b0,2,none⟩=some _:=HKC.o.cell 2;have c3:wz.cell? ⟨b0,3,none⟩=some _:=HKC.o.cell 3;have c4:wz.cell? ⟨b0,4,none⟩=some _:=HKC.o.cell 4;have c5:wz.cell? ⟨b0,5,none⟩=some _:=HKC.o.cell 5;have c6:wz.cell? ⟨b0,6,none⟩=some _:=HKC.o.cell 6;have hwe:IntKind.i64.wrap (xa+xl)=xa+xl:=by have:=HXL.o;exact IntWalk.i64_in _ (by omega)
 go_enter Tryz.func40,Tryz.ntmps40;go_upto_region 1 with(fail);rw[←HWZ.o];try simp only[hb0]
 have HB0:=Za hb0;clear hb0;by_cases h1:p≤xa
 · have hd1:decide (p≤xa)=true:=decide_eq_true h1;have HFIN:=Za (HSELF.o wz HG.o (.inl h1));clear h1;go_wp2_with fail;exact HFIN.o
 have hd1:decide (p≤xa)=false:=decide_eq_false h1;by_cases h2:xa+xl≤p
 · have hd2:decide (xa+xl≤p)=true:=decide_eq_true h2;have hd3:decide (p≥xa+xl)=true:=decide_eq_true h2;have HFIN:=Za (HSELF.o wz HG.o (.inr h2));clear h1 h2;go_wp2_with fail;exact HFIN.o
 have hd2:decide (xa+xl≤p)=false:=decide_eq_false h2;have hd3:decide (p≥xa+xl)=false:=decide_eq_false h2;obtain⟨d,hd⟩:∃d,p - xa=d:=⟨_,rfl⟩;have HWD:Hid (IntKind.i64.wrap (p - xa)=d):=by show _=_;rw[←hd];have:=HXL.o;exact IntWalk.i64_in _ (by omega)
 have HDB:Hid (0<d∧d<xl):=by have:=HXL.o;exact⟨by omega,by omega⟩
 have HFN2:Hid ([Z31 X 0 d,Z31 X d xl]=L):=by have h:=HFN0.o (fun h=>h.elim h1 h2);rw[hd]at h;exact h
 have HV1:=Za (HVL.o wz (Gq.refl _));clear h1 h2 hd HSELF HFN0 HVL;go_wp2_with fail;refine HV1.o.mono ?_;rintro e w2 ⟨hg2,A,c,RR,rfl,hln,hrd,hnq⟩;have HGZ2:Hid (Gq wz w2):=hg2;have HGW:Hid (Gq w w2):=HG.o.trans hg2;have HP1:Hid (∀W,Gq w2 W→Calls Tryz.prog 65 #[.agg #[.string xm,.int .i64 xc,.int .i64 xf,.int .i64 xt,.int .i64 xa,.int .i64 xl,EV],.int .i64 0,.int .i64 d,.slice A n c] W fun e w'=>∃y:CliM,e= .returned y.v∧y.x=Z31 X 0 d∧Z1z w' y∧Gq W w'):=fun W hW=>HPA.o 0 d A c RR W (HGZ2.o.trans hW) hln (hrd.below hW) (hnq.gq hW) (by have:=HDB.o;omega);have HP2:Hid (∀W,Gq w2 W→Calls Tryz.prog 65 #[.agg #[.string xm,.int .i64 xc,.int .i64 xf,.int .i64 xt,.int .i64 xa,.int .i64 xl,EV],.int .i64 d,.int .i64 xl,.slice A n c] W fun e w'=>∃y:CliM,e= .returned y.v∧y.x=Z31 X d xl∧Z1z w' y∧Gq W w'):=fun W hW=>HPA.o d xl A c RR W (HGZ2.o.trans hW) hln (hrd.below hW) (hnq.gq hW) (by have:=HDB.o;omega);have HBC:Hid (Blk w2.drew b0 39 [.string xm,.int .i64 xc,.int .i64 xf,.int .i64 xt,.int .i64 xa,.int .i64 xl,EV]):=Z0o HKC.o (HGZ2.o.drew);have HBB:Hid (b0≤w2.heap.size):=by have h1:=Below.size HGZ2.o;have h2:=HZ.o;show _≤_;omega
 obtain⟨PX,hPX⟩:∃P,Z31 X 0 d=P:=⟨_,rfl⟩;obtain⟨PY,hPY⟩:∃P,Z31 X d xl=P:=⟨_,rfl⟩;rw[hPX]at HP1 HFN2;rw[hPY]at HP2 HFN2;clear hPX hPY hg2 hln hrd hnq HPA HV1 c0 c1 c2 c3 c4 c5 c6 hwe hd1 hd2 hd3;go_upto_region 4 with(fail);refine Z00 _ (by kernel_rfl) [[],[],[],[2],[1,2,3],[],[0,1,2,3,4,5],[],[],[],[9],[8,9,10],[],[12],[],[7,8,9,10,11,12,13,14],[0,1,2,3,4,5,6,7,8,9,10,11,12,13,14,15],[0,1,2,3,4,5,6,7,8,9,10,11,12,13,14,15,16]] (by kernel_rfl) (by kernel_rfl) [some 23,some 24,some 25,some 26,some 27,some 28,some 29,some 30,some 31,some 32,some 33,some 34,some 35,some 36,some 37,some 38,some 39,some 4] (by kernel_rfl) (fun vs=>by simp only[Go.Dwo.putA,Go.Dwo.putL,if_true,Act.put,Zb,Zc,Zd];rfl) (ctrF w2 b0 xm xc xf xt xa xl p d EV A n c PX PY) (by kernel_rfl) ?_ ⟨?_, ?_, ?_, ?_, ?_, ?_, ?_, ?_, ?_, ?_, ?_, ?_, ?_, ?_, ?_, ?_, ?_, ?_,trivial⟩ ?_
 · exact fcZ [0,1] rfl<|fcL ((Gq.refl _).drew)<|fcL (HBC.o)<|fcN _
 · intro Ls vs w Kk H hu hD hK;have kb:Blk w b0 39 [.string xm,.int .i64 xc,.int .i64 xf,.int .i64 xt,.int .i64 xa,.int .i64 xl,EV]:=fcG H hu hD 1 rfl rfl rfl;have y0:w.cell? ⟨b0,0,none⟩=_:=kb.cell 0;simp only[Ze]at y0;have y1:w.cell? ⟨b0,1,none⟩=_:=kb.cell 1;simp only[Ze,Zf]at y1;have y2:w.cell? ⟨b0,2,none⟩=_:=kb.cell 2;simp only[Ze,Zf]at y2;have y3:w.cell? ⟨b0,3,none⟩=_:=kb.cell 3;simp only[Ze,Zf]at y3;have y4:w.cell? ⟨b0,4,none⟩=_:=kb.cell 4;simp only[Ze,Zf]at y4;have y5:w.cell? ⟨b0,5,none⟩=_:=kb.cell 5;simp only[Ze,Zf]at y5;have y6:w.cell? ⟨b0,6,none⟩=_:=kb.cell 6;simp only[Ze,Zf]at y6;go_simp;exact fcV hK (fcP 2 rfl rfl fun _=>rfl)
 · intro Ls vs w Kk H hu hD hK;go_simp;exact fcV hK (fcP 3 rfl rfl fun _=>rfl)
 · intro Ls vs w Kk H hu hD hK;go_simp;exact fcV hK (fcP 4 rfl rfl fun _=>rfl)
 · intro Ls vs w Kk H hu hD hK;have kb:Blk w b0 39 [.string xm,.int .i64 xc,.int .i64 xf,.int .i64 xt,.int .i64 xa,.int .i64 xl,EV]:=fcG H hu hD 1 rfl rfl rfl;have f2:vs 2= .pointer (some ⟨b0,4,none⟩):=fcG H hu hD 4 rfl rfl rfl;have y4:w.cell? ⟨b0,4,none⟩=_:=kb.cell 4;simp only[Ze,Zf]at y4;go_simp;exact fcV hK (fcP 5 rfl rfl fun _=>rfl)
 · intro Ls vs w Kk H hu hD hK;have f1:vs 1= .int .i64 p:=fcG H hu hD 3 rfl rfl rfl;have f3:vs 3= .int .i64 xa:=fcG H hu hD 5 rfl rfl rfl;have hwd:=HWD.o;go_simp;exact fcV hK (fcP 6 rfl rfl fun _=>rfl)
 · intro Ls vs w Kk H hu hD hK;go_simp;exact fcV hK (fcP 7 rfl rfl fun _=>rfl)
 · intro Ls vs w Kk H hu hD hK;have h0:Gq w2 w:=fcG H hu hD 0 rfl rfl rfl;have f0:vs 0= .agg #[.string xm,.int .i64 xc,.int .i64 xf,.int .i64 xt,.int .i64 xa,.int .i64 xl,EV]:=fcG H hu hD 2 rfl rfl rfl;have f4:vs 4= .int .i64 d:=fcG H hu hD 6 rfl rfl rfl;have f5:vs 5= .slice A n c:=fcG H hu hD 7 rfl rfl rfl;go_simp;refine(HP1.o w h0).mono ?_;rintro e w' ⟨y,rfl,hyx,hyt,hb⟩;exact⟨_,rfl,fcC hK (fun f hf _ h=>ctrK w2 b0 xm xc xf xt xa xl p d EV A n c PX PY f hf _ _ _ hb h) (fcP 8 rfl rfl fun _=>⟨y,rfl,hyx,hyt⟩)⟩
 · intro Ls vs w Kk H hu hD hK;have kb:Blk w b0 39 [.string xm,.int .i64 xc,.int .i64 xf,.int .i64 xt,.int .i64 xa,.int .i64 xl,EV]:=fcG H hu hD 1 rfl rfl rfl;have y0:w.cell? ⟨b0,0,none⟩=_:=kb.cell 0;simp only[Ze]at y0;have y1:w.cell? ⟨b0,1,none⟩=_:=kb.cell 1;simp only[Ze,Zf]at y1;have y2:w.cell? ⟨b0,2,none⟩=_:=kb.cell 2;simp only[Ze,Zf]at y2;have y3:w.cell? ⟨b0,3,none⟩=_:=kb.cell 3;simp only[Ze,Zf]at y3;have y4:w.cell? ⟨b0,4,none⟩=_:=kb.cell 4;simp only[Ze,Zf]at y4;have y5:w.cell? ⟨b0,5,none⟩=_:=kb.cell 5;simp only[Ze,Zf]at y5;have y6:w.cell? ⟨b0,6,none⟩=_:=kb.cell 6;simp only[Ze,Zf]at y6;go_simp;exact fcV hK (fcP 9 rfl rfl fun _=>rfl)
 · intro Ls vs w Kk H hu hD hK;go_simp;exact fcV hK (fcP 10 rfl rfl fun _=>rfl)
 · intro Ls vs w Kk H hu hD hK;go_simp;exact fcV hK (fcP 11 rfl rfl fun _=>rfl)
 · intro Ls vs w Kk H hu hD hK;have kb:Blk w b0 39 [.string xm,.int .i64 xc,.int .i64 xf,.int .i64 xt,.int .i64 xa,.int .i64 xl,EV]:=fcG H hu hD 1 rfl rfl rfl;have f9:vs 9= .pointer (some ⟨b0,4,none⟩):=fcG H hu hD 11 rfl rfl rfl;have y4:w.cell? ⟨b0,4,none⟩=_:=kb.cell 4;simp only[Ze,Zf]at y4;go_simp;exact fcV hK (fcP 12 rfl rfl fun _=>rfl)
 · intro Ls vs w Kk H hu hD hK;have f8:vs 8= .int .i64 p:=fcG H hu hD 10 rfl rfl rfl;have f10:vs 10= .int .i64 xa:=fcG H hu hD 12 rfl rfl rfl;have hwd:=HWD.o;go_simp;exact fcV hK (fcP 13 rfl rfl fun _=>rfl)
 · intro Ls vs w Kk H hu hD hK;go_simp;exact fcV hK (fcP 14 rfl rfl fun _=>rfl)
 · intro Ls vs w Kk H hu hD hK;have kb:Blk w b0 39 [.string xm,.int .i64 xc,.int .i64 xf,.int .i64 xt,.int .i64 xa,.int .i64 xl,EV]:=fcG H hu hD 1 rfl rfl rfl;have f12:vs 12= .pointer (some ⟨b0,5,none⟩):=fcG H hu hD 14 rfl rfl rfl;have y5:w.cell? ⟨b0,5,none⟩=_:=kb.cell 5;simp only[Ze,Zf]at y5;go_simp;exact fcV hK (fcP 15 rfl rfl fun _=>rfl)
 · intro Ls vs w Kk H hu hD hK;go_simp;exact fcV hK (fcP 16 rfl rfl fun _=>rfl)
 · intro Ls vs w Kk H hu hD hK;have h0:Gq w2 w:=fcG H hu hD 0 rfl rfl rfl;have f7:vs 7= .agg #[.string xm,.int .i64 xc,.int .i64 xf,.int .i64 xt,.int .i64 xa,.int .i64 xl,EV]:=fcG H hu hD 9 rfl rfl rfl;have f11:vs 11= .int .i64 d:=fcG H hu hD 13 rfl rfl rfl;have f13:vs 13= .int .i64 xl:=fcG H hu hD 15 rfl rfl rfl;have f14:vs 14= .slice A n c:=fcG H hu hD 16 rfl rfl rfl;go_simp;refine(HP2.o w h0).mono ?_;rintro e w' ⟨y,rfl,hyx,hyt,hb⟩;exact⟨_,rfl,fcC hK (fun f hf _ h=>ctrK w2 b0 xm xc xf xt xa xl p d EV A n c PX PY f hf _ _ _ hb h) (fcP 17 rfl rfl fun _=>⟨y,rfl,hyx,hyt⟩)⟩
 · intro Ls vs w Kk H hu hD hK;have h0:Gq w2 w:=fcG H hu hD 0 rfl rfl rfl;obtain⟨y6,e6,x6,t6⟩:∃y:CliM,vs 6= .agg #[.string y.m,.int .i64 y.ch,.int .i64 y.fr,.int .i64 y.tr,.int .i64 y.at_,.int .i64 y.ln,.slice y.e.a y.e.xs.length y.e.c]∧y.x=PX∧Z1z w y:=fcG H hu hD 8 rfl rfl rfl;obtain⟨y15,e15,x15,t15⟩:∃y:CliM,vs 15= .agg #[.string y.m,.int .i64 y.ch,.int .i64 y.fr,.int .i64 y.tr,.int .i64 y.at_,.int .i64 y.ln,.slice y.e.a y.e.xs.length y.e.c]∧y.x=PY∧Z1z w y:=fcG H hu hD 17 rfl rfl rfl;go_simp;refine hK.out _ _ (fun f hf _ _ _ h=>ctrK w2 b0 xm xc xf xt xa xl p d EV A n c PX PY f hf _ _ _ (Gq.alloc (Gq.refl _) _) h) ?_;exact fcK [18,19] rfl<|fcL (fun _=>⟨w.heap.size,y6,y15,rfl,World.ownsRow_lit (base:=b0) (e:=39) (size:=7) w #[.string y6.m,.int .i64 y6.ch,.int .i64 y6.fr,.int .i64 y6.tr,.int .i64 y6.at_,.int .i64 y6.ln,.slice y6.e.a y6.e.xs.length y6.e.c,.string y15.m,.int .i64 y15.ch,.int .i64 y15.fr,.int .i64 y15.tr,.int .i64 y15.at_,.int .i64 y15.ln,.slice y15.e.a y15.e.xs.length y15.e.c] 2 (Nat.le_trans HBB.o (Below.size h0)) (by decide) rfl,⟨x6,x15⟩,t6.gq ((Gq.refl _).alloc _),t15.gq ((Gq.refl _).alloc _)⟩)<|fcL (fun hL=>absurd (show(16:Nat)∈([0,1,2,3,4,5,6,7,8,9,10,11,12,13,14,15,16]:List Nat)from by decide) (hL 17 (show(17:Nat)∈([16,17]:List Nat)from by decide) (show(17:Nat)≠16 from by decide)).2)<|fcN _
 · intro Ls vs w Kk H hu hD hK;obtain⟨g16,y16,z16,e16,o16,x16,ty16,tz16⟩:∃(g:Nat) (y z:CliM),vs 16= .slice (some ⟨g,0,none⟩) 2 2∧w.ownsRow b0 39 7 (.slice (some ⟨g,0,none⟩) 2 2) 2 (([y,z]:List CliM).flatMap CliM.cs)∧(y.x=PX∧z.x=PY)∧Z1z w y∧Z1z w z:=fcG H hu hD 18 rfl rfl rfl;go_simp;exact fcV hK (fcP 19 rfl rfl fun _=>(by first|rfl|exact e16.symm))
 · intro vs w H;have h0:Gq w2 w:=fcE H 0 rfl rfl;obtain⟨g16,y16,z16,e16,o16,x16,ty16,tz16⟩:∃(g:Nat) (y z:CliM),vs 16= .slice (some ⟨g,0,none⟩) 2 2∧w.ownsRow b0 39 7 (.slice (some ⟨g,0,none⟩) 2 2) 2 (([y,z]:List CliM).flatMap CliM.cs)∧(y.x=PX∧z.x=PY)∧Z1z w y∧Z1z w z:=fcE H 18 rfl rfl;have f17:vs 17=vs 16:=fcE H 19 rfl rfl;clear H;simp only[Nat.zero_add,Nat.reduceAdd];have HG4:Hid (Gq w2 w):=h0;have HFIN:=Za (HEND.o ⟨some ⟨g16,0,none⟩,2,[y16,z16]⟩ w (HGW.o.trans HG4.o) (by rw[←HFN2.o,←x16.1,←x16.2];rfl) o16 (fun y hy=>by rcases List.mem_cons.1 hy with h|h;exact .inr (by rw[h];exact ty16);exact .inr (by rw[List.mem_singleton.1 h];exact tz16)));rw[e16]at f17;simp only[f17,e16];clear e16 o16 x16 ty16 tz16 f17 h0;go_wp2_with fail;exact HFIN.o
end Go.Proofs.YtcemlhbfemenpaaGreatDoor
namespace Go.Proofs.YtcemlhbfemenpaaGreatDoor
open Go.RowKit Go.Dw
attribute [local go_sem ↓] Go.wp_at_zero Go.wp_at_succ
theorem onTr_nil (t:Int)(w:World):Calls Tryz.prog 39 #[.slice none 0 0,.int .i64 t] w fun e w'=>e= .returned (.bool true)∧Gq w w':=by
 go_enter Tryz.func39,Tryz.ntmps39;go_wp2_with fail
 go_loopw [5] (fun kv wq=>kv= .int .i64 0∧Hid (Gq w wq)) (fun _ _=>0)
 case atStart=>exact⟨rfl,Gq.refl _⟩
 case round=>obtain⟨rfl,HW⟩:=hrel;go_wp2_with fail;go_ret;exact⟨rfl,HW.o⟩
theorem Zft (rt tk:Int)(A:Option Addr)(n c:Nat)(w:World):Calls Tryz.prog 38 #[.agg #[.int .i64 rt,.int .i64 tk,.slice A n c],.slice none 0 0] w fun e w'=>e= .returned (.int .i64 0)∧Gq w w':=by
 have HG:Hid (Gq w (w.alloc (.cells #[.int .i64 rt,.int .i64 tk,.slice A n c] 24))):=(Gq.refl _).alloc _;go_enter Tryz.func38,Tryz.ntmps38;go_wp2_with fail
 go_loopw [5] (fun kv wq=>kv= .int .i64 0∧Hid (Gq w wq)) (fun _ _=>0)
 case atStart=>exact⟨rfl,HG.o⟩
 case round=>obtain⟨rfl,HW⟩:=hrel;go_wp2_with fail;go_ret;exact⟨rfl,HW.o⟩
theorem cli_oneC (l:List CliM):∀u∈l.flatMap CliM.cs,u.oneCell'=true:=fun u hu=>by
 obtain⟨c, -,hc⟩:=List.mem_flatMap.1 hu;simp only[CliM.cs,List.mem_cons,List.not_mem_nil,or_false]at hc;rcases hc with rfl|rfl|rfl|rfl|rfl|rfl|rfl<;>rfl
theorem Zbj (p:Int)(c:Cli):(Z2b p c).length≤2:=by
 unfold Z2b;split<;>simp
def Z2s (w W:World)(y:CliM):Prop:=CliOk w y∨Z1z W y
theorem Z2s.kp {w W W':World}{y:CliM}(h:Z2s w W y)(hk:KpT 61 W W'):Z2s w W' y:=h.elim .inl fun h=> .inr (h.kp hk)
theorem Z2s.gq {w W W':World}{y:CliM}(h:Z2s w W y)(hk:Gq W W'):Z2s w W' y:=h.kp (.of_below hk)
theorem Z2s.ok {w W:World}{y:CliM}(h:Z2s w W y)(hk:Gq w W):CliOk W y:=h.elim (fun h=>h.below hk) fun h=>h.1
def CtaR (w0:World)(l:List Cli)(w:World)(e:Ending)(w':World):Prop:=
 Gq w w'∧∃s:Slc CliM,e= .returned s.v∧s.xs.map CliM.x=l∧w'.ownsRow w.heap.size 39 7 s.v s.xs.length (s.xs.flatMap CliM.cs)∧∀y∈s.xs,Z2s w0 w' y
theorem Zfu {w0 wb w6 w9:World}{v9:Value}{ys zs:List CliM}{AO:Option Addr}{cO:Nat}(hg:Gq wb w6)(ho:w6.ownsRow wb.heap.size 39 7 (.slice AO ys.length cO) ys.length (ys.flatMap CliM.cs))(ht:∀u∈ys,Z2s w0 w6 u)(hz:∀u∈zs,Z2s w0 w6 u)
  (hown:w9.ownsRow wb.heap.size 39 7 v9 (ys.length+zs.length) (ys.flatMap CliM.cs++zs.flatMap CliM.cs)) (hgr:w6.grownBy w9 (Value.slice AO ys.length cO).ownBlock):
  Gq wb w9∧w9.ownsRow wb.heap.size 39 7 v9 (ys++zs).length ((ys++zs).flatMap CliM.cs)∧∀u∈ys++zs,Z2s w0 w9 u:=by
 have hk:KpT 61 w6 w9:=KpT.own ho hgr (by decide);refine⟨Below.grown hg hgr (Below.size hg) (fun j hj=>(ho.lt j hj).1), ?_,fun u hu=> ?_⟩
 · rw[Zj,List.flatMap_append];exact hown
 ·
  rcases List.mem_append.1 hu with h|h
  · exact(ht u h).kp hk
  · exact(hz u h).kp hk
theorem own_scn {w:World}{B c:Nat}{A:Option Addr}{ys zs:List CliM}{xs:List Value}(h:w.ownsRow B 39 7 (.slice A (ys.length+zs.length) c) (ys++zs).length xs):w.ownsRow B 39 7 (.slice A (ys++zs).length c) (ys++zs).length xs:=by
 rw[Zj]at h⊢;exact h
theorem Z67 (A:Option Addr)(c:Nat)(xs:List CliM)(p:Int)(w0 w:World)(hg0:Gq w0 w)(h:Rd w A (xs.flatMap CliM.cs))(hok:∀y∈xs,Z2s w0 w y)(hV:∀y∈xs,Z6s y.x)(hl:xs.length≤1000000)(hpw:HasPow w):
  Calls Tryz.prog 18 #[.slice A xs.length c,.int .i64 p,.slice none 0 0] w (CtaR w0 ((xs.map CliM.x).flatMap (Z2b p)) w):=by
 have HRD:=Za h;have HCU:Hid (∀(k:Nat) (hk:k<xs.length) (W:World),Gq w W→Calls Tryz.prog 40 #[xs[k].v,.int .i64 p] W fun e w'=>Gq W w'∧∃s:Slc CliM,e= .returned s.v∧s.xs.map CliM.x=Z2b p xs[k].x∧w'.ownsRow W.heap.size 39 7 s.v s.xs.length (s.xs.flatMap CliM.cs)∧∀y∈s.xs,Z2s w0 w' y):=fun k hk W hW=>by have hm:=Zn hk;exact(cutR_any xs[k] p W (((hok _ hm).gq hW).ok (hg0.trans hW)) (hV _ hm) (hpw.below hW)).mono fun e w' ⟨h1,s,h2,h3,h4,h5⟩=>⟨h1,s,h2,h3,h4,fun y hy=>(h5 y hy).elim (fun e=>by rw[e];exact(hok _ hm).gq (hW.trans h1)) .inr⟩
 obtain⟨L,hL⟩:∃L,(xs.map CliM.x).flatMap (Z2b p)=L:=⟨_,rfl⟩;obtain⟨q,hq⟩:∃q,CtaR w0 L w=q:=⟨_,rfl⟩;have HEND:Hid (∀(ys:List CliM) (AO:Option Addr) (cO:Nat) (W:World),ys.map CliM.x=(xs.map CliM.x).flatMap (Z2b p)→W.ownsRow w.heap.size 39 7 (.slice AO ys.length cO) ys.length (ys.flatMap CliM.cs)→(∀y∈ys,Z2s w0 W y)→Gq w W→q (.returned (.slice AO ys.length cO)) W):=fun ys AO cO W h1 h2 h3 h4=>by rw[←hq];exact⟨h4,⟨AO,cO,ys⟩,rfl,by rw[←hL];exact h1,h2,h3⟩
 rw[hL,hq];obtain⟨ii,hii,hzi0,hzi1,hzi2⟩:=info_parts Z7j;have HII:=Za (And.intro hii (And.intro hzi0 (And.intro hzi1 hzi2)));clear hg0 h hok hV hpw hL hq hii hzi0 hzi1 hzi2;go_enter Tryz.func18,Tryz.ntmps18;go_wp2_with fail
 go_loopw [7,8] (fun ov kv wq=>∃(k:Nat) (ys:List CliM) (AO:Option Addr) (cO:Nat),k≤xs.length∧kv= .int .i64 (k:Int)∧ov= .slice AO ys.length cO∧Hid (ys.map CliM.x=((xs.take k).map CliM.x).flatMap (Z2b p)∧ys.length≤2*k)∧Hid (wq.ownsRow w.heap.size 39 7 (.slice AO ys.length cO) ys.length (ys.flatMap CliM.cs)∧(∀y∈ys,Z2s w0 wq y)∧Gq w wq)) (fun _ kv _=>xs.length - (intOf kv).toNat)
 case atStart=>exact⟨0,[],none,0,Nat.zero_le _,rfl,rfl,⟨rfl,Zh _⟩,World.ownsRow_nil _ _ _ _,(fun y hy=>by simp at hy),Gq.refl _⟩
 case round=>
  obtain⟨k,ys,AO,cO,hk,rfl,rfl,HM,HW⟩:=hrel;by_cases hlt:k<xs.length
  case neg=>have hd0:decide (k<xs.length)=false:=(by simpa using hlt);have HFIN:=Za (HEND.o ys AO cO wr (by have h:=HM.o.1;rw[Zl (by omega)]at h;exact h) HW.o.1 HW.o.2.1 HW.o.2.2);clear hlt;go_wp2_with fail;exact HFIN.o
  have hd0:decide (k<xs.length)=true:=by simpa using hlt
  have i0:(0:Int)≤(k:Int):=by omega
  have i1:(k:Int)<(xs.length:Int):=by omega
  obtain⟨b,off,hA,hbb,hcs⟩:=Z4b (HRD.o.below HW.o.2.2) (show 0<xs.length by omega);subst hA;have HTK:Hid (((xs.take (k+1)).map CliM.x).flatMap (Z2b p)=((xs.take k).map CliM.x).flatMap (Z2b p)++Z2b p xs[k].x):=by show _=_;rw[List.take_succ_eq_append_getElem hlt,List.map_append,List.flatMap_append];simp
  have HC1:=Za (HCU.o k hlt);have HCS:Hid (∀W,Gq wr W→W.cell? ⟨b,off+k*7,none⟩=some (.string xs[k].m)∧W.cell? ⟨b,off+k*7+1,none⟩=some (.int .i64 xs[k].ch)∧W.cell? ⟨b,off+k*7+2,none⟩=some (.int .i64 xs[k].fr)∧W.cell? ⟨b,off+k*7+3,none⟩=some (.int .i64 xs[k].tr)∧W.cell? ⟨b,off+k*7+4,none⟩=some (.int .i64 xs[k].at_)∧W.cell? ⟨b,off+k*7+5,none⟩=some (.int .i64 xs[k].ln)∧W.cell? ⟨b,off+k*7+6,none⟩=some (.slice xs[k].e.a xs[k].e.xs.length xs[k].e.c)):=fun W hW=>by obtain⟨h0,h1,h2,h3,h4,h5,h6⟩:=hcs k hlt;exact⟨by rw[Below.cell hW (by exact hbb)];exact h0,by rw[Below.cell hW (by exact hbb)];exact h1,by rw[Below.cell hW (by exact hbb)];exact h2,by rw[Below.cell hW (by exact hbb)];exact h3,by rw[Below.cell hW (by exact hbb)];exact h4,by rw[Below.cell hW (by exact hbb)];exact h5,by rw[Below.cell hW (by exact hbb)];exact h6⟩
  clear hcs hbb;obtain⟨Z,hZ⟩:∃Z,xs[k]=Z:=⟨_,rfl⟩;rw[hZ]at HTK HC1 HCS;clear hZ;obtain⟨LZ,hLZ⟩:∃l,Z2b p Z.x=l:=⟨_,rfl⟩;have HLZ:Hid (LZ.length≤2):=by rw[←hLZ];exact Zbj p Z.x
  rw[hLZ]at HTK HC1;simp only[CliM.v,Slc.v]at HC1;clear hLZ;obtain⟨p0,p1,p2,p3,p4,p5,p6⟩:=HCS.o wr (Gq.refl _);have HOT:=Za (onTr_nil Z.tr wr);go_wp2_with fail;refine HOT.o.mono ?_;rintro e w5 ⟨rfl,hg5⟩;have HG5:Hid (Gq wr w5):=hg5;obtain⟨q0,q1,q2,q3,q4,q5,q6⟩:=HCS.o w5 hg5;have HC2:=Za (HC1.o w5 (HW.o.2.2.trans hg5));clear p0 p1 p2 p3 p4 p5 p6 hg5 HOT HC1 HCS;go_wp2_with fail;refine HC2.o.mono ?_;rintro e w6 ⟨hg6,⟨sA,sc,ss⟩,rfl,hsm,hso,hst⟩;have HG6:Hid (Gq w w6):=HW.o.2.2.trans (HG5.o.trans hg6);have HO6:Hid (w6.ownsRow w.heap.size 39 7 (.slice AO ys.length cO) ys.length (ys.flatMap CliM.cs)):=Z04 HW.o.1 (HG5.o.trans hg6);have HT6:Hid (∀u∈ys,Z2s w0 w6 u):=fun u hu=>(HW.o.2.1 u hu).gq (HG5.o.trans hg6);have HZ6:Hid (∀u∈ss,Z2s w0 w6 u):=hst;have HSM:Hid (ss.map CliM.x=LZ):=hsm;have HSL:Hid (ss.length≤2∧ys.length≤2000000):=by have h:=congrArg List.length HSM.o;rw[List.length_map]at h;have h2:=HLZ.o;have h3:=HM.o.2;exact⟨by omega,by omega⟩
  have hs2:=HSL.o.1;have hs3:=HSL.o.2;have HRS:Hid (Rd w6 sA (ss.flatMap CliM.cs)):=Rd.of_own hso;have HBZ:Hid (w.heap.size≤w6.heap.size):=Below.size HG6.o;dsimp only;clear hg6 hsm hso hst HC2 q0 q1 q2 q3 q4 q5 q6;go_wp2_with (at_builtin;refine Z2r (by rfl) (.tmp 22) (.tmp 28) 22 (by rfl) w.heap.size 39 ii _ 7 80 Tryz.underlying22 HII.o.1 HII.o.2.1 HII.o.2.2.1 HII.o.2.2.2 rfl (by decide) (.slice AO ys.length cO) ys.length (ys.flatMap CliM.cs) (by rfl) HO6.o sA ss.length sc (ss.flatMap CliM.cs) (by rfl) (Z0x CliM.cs 7 (fun _=>rfl) ss) HRS.o (cli_oneC ss) (by unfold maxLen;omega) (by omega) HBZ.o ?_;intro v9 w9 hown9 hg9 hat9;have hend:=Zfu HG6.o HO6.o HT6.o HZ6.o hown9 hg9;obtain⟨A9,c9,rfl⟩:=Z08 hown9;have HE9:=Za hend;clear hown9 hg9 hat9 hend);go_roundw
  case rel=>exact⟨k+1,ys++ss,A9,c9,by omega,by go_num,by rw[Zj],⟨by rw[HTK.o,List.map_append,HM.o.1,HSM.o],by rw[Zj];have:=HM.o.2;omega⟩,own_scn HE9.o.2.1,HE9.o.2.2,HE9.o.1⟩
  case measure=>simp[intOf];omega
theorem lift_nil (x:EdtM)(a b:Int)(w:World)(hx:EdtOk w x)(hp:HasPow w):Calls Tryz.prog 17 #[x.v,.agg #[.int .i64 a,.int .i64 b],.slice none 0 0] w fun e w'=>e= .returned (.int .i64 (if Z0y Z0r 1000000 x.x≠0 then Z0y Z0r 1000000 x.x else Z15 a b))∧Gq w w':=by
 obtain⟨g,hg⟩:∃g,w.heap.size=g:=⟨_,rfl⟩;obtain⟨wa,hwa⟩:∃wa,wa=w.alloc (.cells #[.int .i64 x.rate,.int .i64 x.tracks,.slice x.cs.a x.cs.xs.length x.cs.c] 24):=⟨_,rfl⟩;obtain⟨w1,hw1⟩:∃w1,w1=wa.alloc (.cells #[.int .i64 a,.int .i64 b] 26):=⟨_,rfl⟩;have hz:wa.heap.size=g+1:=by rw[hwa];simp;omega
 have hga:Gq w wa:=by rw[hwa];exact(Gq.refl _).alloc _
 have hgb:Gq wa w1:=by rw[hw1];exact(Gq.refl _).alloc _
 have HG:Hid (Gq w w1):=hga.trans hgb;have HKE:Hid (Blk w1 g 24 [.int .i64 x.rate,.int .i64 x.tracks,.slice x.cs.a x.cs.xs.length x.cs.c]):=by refine Z0o (?_:Blk wa g _ _) hgb;rw[hwa,←hg];exact Blk.new w _ _
 have HKS:Hid (Blk w1 (g+1) 26 [.int .i64 a,.int .i64 b]):=by rw[hw1,←hz];exact Blk.new wa _ _
 obtain⟨F,hF⟩:∃F,Z0y Z0r 1000000 x.x=F:=⟨_,rfl⟩;have HC:=Za (Z6q x w1 (hx.below HG.o) (hp.below HG.o));rw[hF]at HC⊢;obtain⟨r,hr⟩:∃r,(if F≠0 then F else Z15 a b)=r:=⟨_,rfl⟩;have HR:=Za hr;rw[hr];clear hr;have d0:w1.cell? ⟨g,0,none⟩=some _:=HKE.o.cell 0;have d1:w1.cell? ⟨g,1,none⟩=some _:=HKE.o.cell 1;have d2:w1.cell? ⟨g,2,none⟩=some _:=HKE.o.cell 2;rw[hwa]at hw1;have HW1:=Za hw1;clear hw1 hwa hz hga hgb hF hx hp;obtain⟨rt,tk,⟨A,c,xs⟩⟩:=x;simp only[EdtM.v,Slc.v]at HC⊢;simp only at HKE HW1 d0 d1 d2;obtain⟨n,hn⟩:∃n:Nat,xs.length=n:=⟨_,rfl⟩;rw[hn]at HC HKE HW1 d2⊢;clear hn;go_enter Tryz.func17,Tryz.ntmps17;go_upto_region 1 with(fail);rw[←HW1.o];try simp only[hg]
 clear hg;go_wp2_with fail;refine HC.o.mono ?_;rintro e w2 ⟨rfl,hg2⟩;have HG2:Hid (Gq w1 w2):=hg2;by_cases h0:F=0
 ·
  have e0:(F !=0)=false:=by simpa using h0
  have HR2:Hid (Z15 a b=r):=by have h:=HR.o;rw[if_neg (fun q=>q h0)]at h;exact h
  have s0:w2.cell? ⟨g+1,0,none⟩=some _:=(Z0o HKS.o hg2).cell 0;have s1:w2.cell? ⟨g+1,1,none⟩=some _:=(Z0o HKS.o hg2).cell 1;obtain⟨S,hS⟩:∃S,Z15 a b=S:=⟨_,rfl⟩;have HS2:=Za (Zf9 a b w2);rw[hS]at HS2 HR2;clear hg2 hS h0 d0 d1 d2;go_wp2_with fail;refine HS2.o.mono ?_;rintro e w3 ⟨rfl,hg3⟩;have HG3:Hid (Gq w1 w3):=HG2.o.trans hg3;clear hg3 s0 s1;by_cases h1:S=0
  · have e1:(S !=0)=false:=(by simpa using h1);have hk:=Z0o HKE.o HG3.o;have d0:w3.cell? ⟨g,0,none⟩=some _:=hk.cell 0;have d1:w3.cell? ⟨g,1,none⟩=some _:=hk.cell 1;have d2:w3.cell? ⟨g,2,none⟩=some _:=hk.cell 2;have HT:=Za (Zft rt tk A n c w3);clear hk h1;go_wp2_with fail;refine HT.o.mono ?_;rintro e w4 ⟨rfl,hg4⟩;have HG4:Hid (Gq w w4):=HG.o.trans (HG3.o.trans hg4);have h1:S=0:=(by simpa using e1);have HR3:Hid (0=r):=(by rw[←h1];exact HR2.o);clear hg4 h1;go_wp2_with fail;go_ret;exact⟨by have h:=HR3.o;subst h;rfl,HG4.o⟩
  · have e1:(S !=0)=true:=(by simpa using h1);clear h1;go_wp2_with fail;go_ret;exact⟨by have h:=HR2.o;subst h;rfl,HG.o.trans HG3.o⟩
 · have e0:(F !=0)=true:=(by simpa using h0);have HR2:Hid (F=r):=(by have h:=HR.o;rw[if_pos h0]at h;exact h);clear hg2 h0;go_wp2_with fail;go_ret;exact⟨by have h:=HR2.o;subst h;rfl,HG.o.trans HG2.o⟩
end Go.Proofs.YtcemlhbfemenpaaGreatDoor
namespace Go.Proofs.YtcemlhbfemenpaaGreatDoor
open Go.RowKit Go.Dw
open Go.Dwo (fcL fcN fcK fcZ fcG fcE fcD fcV fcC fcP Z00)
attribute [local go_sem ↓] Go.wp_at_zero Go.wp_at_succ
attribute [local go_sem] Go.Dwo.Oper.tame Go.Dwo.actOf List.getD_cons_zero List.getD_cons_succ
theorem Z2s.at_ {w W:World}{y:CliM}(h:Z2s w W y){z:Int}(hi:Z0l z):Z2s w W ⟨y.m,y.ch,y.fr,y.tr,z,y.ln,y.e⟩:=
 h.elim (fun h=> .inl ⟨h.m,h.ch,h.fr,h.tr,hi,h.ln,h.el,h.er,h.eo⟩) fun h=> .inr ⟨⟨h.1.m,h.1.ch,h.1.fr,h.1.tr,hi,h.1.ln,h.1.el,h.1.er,h.1.eo⟩,h.2⟩
theorem exr_end {w0 wb w6 w9:World}{v9:Value}{ys:List CliM}{y:CliM}{AO:Option Addr}{cO:Nat}{o:Obj}(hg:Gq wb w6)(ho:w6.ownsRow wb.heap.size 39 7 (.slice AO ys.length cO) ys.length (ys.flatMap CliM.cs))(ht:∀u∈ys,Z2s w0 w6 u)(hy:Z2s w0 w6 y)
  (hown:w9.ownsRow wb.heap.size 39 7 v9 (ys.length+1) (ys.flatMap CliM.cs++y.cs)) (hgr:(w6.alloc o).grownBy w9 (Value.slice AO ys.length cO).ownBlock):
  Gq wb w9∧w9.ownsRow wb.heap.size 39 7 v9 (ys++ [y]).length ((ys++ [y]).flatMap CliM.cs)∧∀u∈ys++ [y],Z2s w0 w9 u:=
 Zfu (zs:= [y]) (hg.alloc o) (ho.alloc o) (fun u hu=>(ht u hu).gq ((Gq.refl _).alloc _)) (fun u hu=>by rw[List.mem_singleton.1 hu];exact hy.gq ((Gq.refl _).alloc _)) (by rw[List.flatMap_cons,List.flatMap_nil,List.append_nil];exact hown) hgr
theorem flat_le {l:List Cli}{p:Int}{m:Nat}(h:l.length≤m):(l.flatMap (Z2b p)).length≤2*m:=by
 have:∀l:List Cli,(l.flatMap (Z2b p)).length≤2*l.length:=fun l=>by
  induction l with
  |nil=>simp
  |cons c l ih=>rw[List.flatMap_cons,Zj,List.length_cons];have:=Zbj p c;omega
 have:=this l;omega
theorem flat_v {l:List Cli}{p:Int}(h:∀c∈l,Z6s c):∀c∈l.flatMap (Z2b p),Z6s c:=fun c hc=>by
 obtain⟨d,hd,hcd⟩:=List.mem_flatMap.1 hc;exact(h d hd).cut p c hcd
def exrF (w0 w2:World)(b0:Nat)(rt tk a b:Int)(EA:Option Addr)(en ed:Nat)(L1 L2:List Cli):List Go.Dwo.Fact:= [
 ⟨[],[],fun _ W=>Gq w2 W⟩,
 ⟨[],[],fun _ W=>Blk W b0 24 [.int .i64 rt,.int .i64 tk,.slice EA en ed]⟩,
 ⟨[],[],fun _ W=>Blk W (b0+1) 26 [.int .i64 a,.int .i64 b]⟩,
 ⟨[0],[],fun vs _=>vs 0= .pointer (some ⟨b0,2,none⟩)⟩,
 ⟨[1],[],fun vs _=>vs 1= .slice EA en ed⟩,
 ⟨[2],[],fun vs _=>vs 2= .pointer (some ⟨b0+1,0,none⟩)⟩,
 ⟨[3],[],fun vs _=>vs 3= .int .i64 a⟩,
 ⟨[4],[],fun vs W=>∃s:Slc CliM,vs 4= .slice s.a s.xs.length s.c∧s.xs.map CliM.x=L1∧Rd W s.a (s.xs.flatMap CliM.cs)∧∀y∈s.xs,Z2s w0 W y⟩,
 ⟨[5],[],fun vs _=>vs 5= .pointer (some ⟨b0+1,1,none⟩)⟩,
 ⟨[6],[],fun vs _=>vs 6= .int .i64 b⟩,
 ⟨[7],[],fun vs W=>∃s:Slc CliM,vs 7= .slice s.a s.xs.length s.c∧s.xs.map CliM.x=L2∧Rd W s.a (s.xs.flatMap CliM.cs)∧∀y∈s.xs,Z2s w0 W y⟩,
 ⟨[7,8],[],fun vs W=>∃s:Slc CliM,vs 7= .slice s.a s.xs.length s.c∧vs 8= .int .i64 (s.xs.length:Int)∧s.xs.map CliM.x=L2∧Rd W s.a (s.xs.flatMap CliM.cs)∧∀y∈s.xs,Z2s w0 W y⟩,
 ⟨[9],[],fun vs _=>vs 9= .int .i64 0⟩]
theorem exrK (w0 w2:World)(b0:Nat)(rt tk a b:Int)(EA:Option Addr)(en ed:Nat)(L1 L2:List Cli):∀f∈exrF w0 w2 b0 rt tk a b EA en ed L1 L2,∀vs w w',Gq w w'→f.says vs w→f.says vs w':=
 fcL (fun _ _ _ hg h=>h.trans hg)<|fcL (fun _ _ _ hg h=>Z0o h hg)<|fcL (fun _ _ _ hg h=>Z0o h hg)<|fcL (fun _ _ _ _ h=>h)<|fcL (fun _ _ _ _ h=>h)<|fcL (fun _ _ _ _ h=>h)<|fcL (fun _ _ _ _ h=>h)<|fcL (fun _ _ _ hg h=>(by obtain⟨s,h1,h2,h3,h4⟩:=h;exact⟨s,h1,h2,h3.below hg,fun y hy=>(h4 y hy).gq hg⟩))<|fcL (fun _ _ _ _ h=>h)<|fcL (fun _ _ _ _ h=>h)<|fcL (fun _ _ _ hg h=>(by obtain⟨s,h1,h2,h3,h4⟩:=h;exact⟨s,h1,h2,h3.below hg,fun y hy=>(h4 y hy).gq hg⟩))<|fcL (fun _ _ _ hg h=>(by obtain⟨s,h1,h0,h2,h3,h4⟩:=h;exact⟨s,h1,h0,h2,h3.below hg,fun y hy=>(h4 y hy).gq hg⟩))<|fcL (fun _ _ _ _ h=>h)<|fcN _
theorem Z8v (x:EdtM)(a b:Int)(w0:World)(hx:EdtOk w0 x)(hp:HasPow w0):
  Calls Tryz.prog 6 #[x.v,.agg #[.int .i64 a,.int .i64 b]] w0 (EdiR (extE Z0r 1000000 x.x a b) w0):=by
 obtain⟨r,hr⟩:∃r,extE Z0r 1000000 x.x a b=r:=⟨_,rfl⟩;obtain⟨b0,hb0⟩:∃b,w0.heap.size=b:=⟨_,rfl⟩;obtain⟨f,hf⟩:∃f,(if Z0y Z0r 1000000 x.x≠0 then Z0y Z0r 1000000 x.x else Z15 a b)=f:=⟨_,rfl⟩;have HLF:Hid (∀W,Gq w0 W→Calls Tryz.prog 17 #[x.v,.agg #[.int .i64 a,.int .i64 b],.slice none 0 0] W fun e w'=>e= .returned (.int .i64 f)∧Gq W w'):=fun W hW=>by rw[←hf];exact lift_nil x a b W (hx.below hW) (hp.below hW)
 have HBAD:Hid (f≠0→r=(e0,f)):=fun h=>by
  rw[←hr];unfold extE;by_cases h0:Z0y Z0r 1000000 x.x≠0
  · rw[if_pos h0]at hf⊢;rw[hf]
  · rw[if_neg h0]at hf⊢;rw[if_pos (by rw[hf];exact h),hf]
 have HGOOD:Hid (f=0→(Z0y Z0r 1000000 x.x=0∧0≤a∧a≤b∧b≤100000)∧r=mkE Z0r 1000000 ⟨x.rate,x.tracks,Z34 ((((x.x.cs.flatMap (Z2b a)).flatMap (Z2b b)).filter (Z3w a b)).map (Z4h (-a)))⟩):=fun h=>by
  by_cases h0:Z0y Z0r 1000000 x.x≠0
  · rw[if_pos h0]at hf;exact absurd (hf.trans h) h0
  ·
   rw[if_neg h0]at hf;have hs:Z15 a b=0:=hf.trans h
   have hs2:0≤a∧a≤b∧b≤100000:=by
    unfold Z15 at hs
    split at hs
    · exact absurd hs (by decide)
    · omega
   refine⟨⟨Decidable.not_not.1 h0,hs2⟩, ?_⟩;rw[←hr];unfold extE;rw[if_neg h0,if_neg (by rw[hs];exact fun k=>k rfl)];rfl
 rw[hr];obtain⟨wa,hwa⟩:∃wa,wa=w0.alloc (.cells #[.int .i64 x.rate,.int .i64 x.tracks,.slice x.cs.a x.cs.xs.length x.cs.c] 24):=⟨_,rfl⟩;obtain⟨wb,hwb⟩:∃wb,wb=wa.alloc (.cells #[.int .i64 a,.int .i64 b] 26):=⟨_,rfl⟩;obtain⟨wc,hwc⟩:∃wc,wc=wb.alloc (.cells #[.int .i64 0,.int .i64 0,.slice none 0 0] 24):=⟨_,rfl⟩;have hga:Gq w0 wa:=by rw[hwa];exact(Gq.refl _).alloc _
 have hgb:Gq wa wb:=by rw[hwb];exact(Gq.refl _).alloc _
 have hgc:Gq wb wc:=by rw[hwc];exact(Gq.refl _).alloc _
 have hza:wa.heap.size=b0+1:=by rw[hwa];simp;omega
 have hzb:wb.heap.size=b0+2:=by rw[hwb];simp;omega
 have HG:Hid (Gq w0 wc):=hga.trans (hgb.trans hgc);have HKE:Hid (Blk wc b0 24 [.int .i64 x.rate,.int .i64 x.tracks,.slice x.cs.a x.cs.xs.length x.cs.c]):=by refine Z0o (?_:Blk wa b0 _ _) (hgb.trans hgc);rw[hwa,←hb0];exact Blk.new w0 _ _
 have HKP:Hid (Blk wc (b0+1) 26 [.int .i64 a,.int .i64 b]):=by refine Z0o (?_:Blk wb (b0+1) _ _) hgc;rw[hwb,←hza];exact Blk.new wa _ _
 have HKR:Hid (Blk wc (b0+2) 24 [.int .i64 0,.int .i64 0,.slice none 0 0]):=by rw[hwc,←hzb];exact Blk.new wb _ _
 have HRB:Hid (∀W,Blk W (b0+2) 24 [.int .i64 0,.int .i64 0,.slice none 0 0]→W.cell? ⟨b0+2,0,none⟩=some (.int .i64 0)∧W.cell? ⟨b0+2,1,none⟩=some (.int .i64 0)∧W.cell? ⟨b0+2,2,none⟩=some (.slice none 0 0)∧W.frozen? ⟨b0+2,0,none⟩=false∧W.frozen? ⟨b0+2,1,none⟩=false∧W.frozen? ⟨b0+2,2,none⟩=false):=fun W k=>
  ⟨k.cell 0,k.cell 1,k.cell 2,k.frozen 0,k.frozen 1,k.frozen 2⟩
 have HEND:Hid (∀W (p q s:Value),Gq w0 W→Blk W (b0+2) 24 [.int .i64 0,.int .i64 0,.slice none 0 0]→((((W.setCell ⟨b0+2,0,none⟩ p).setCell ⟨b0+2,1,none⟩ q).setCell ⟨b0+2,2,none⟩ s).cell? ⟨b0+2,0,none⟩=some p∧(((W.setCell ⟨b0+2,0,none⟩ p).setCell ⟨b0+2,1,none⟩ q).setCell ⟨b0+2,2,none⟩ s).cell? ⟨b0+2,1,none⟩=some q∧(((W.setCell ⟨b0+2,0,none⟩ p).setCell ⟨b0+2,1,none⟩ q).setCell ⟨b0+2,2,none⟩ s).cell? ⟨b0+2,2,none⟩=some s)∧Gq w0 (((W.setCell ⟨b0+2,0,none⟩ p).setCell ⟨b0+2,1,none⟩ q).setCell ⟨b0+2,2,none⟩ s)∧KpT 39 W (((W.setCell ⟨b0+2,0,none⟩ p).setCell ⟨b0+2,1,none⟩ q).setCell ⟨b0+2,2,none⟩ s)∧KpT 61 W (((W.setCell ⟨b0+2,0,none⟩ p).setCell ⟨b0+2,1,none⟩ q).setCell ⟨b0+2,2,none⟩ s)):=fun W p q s hg hk=>by have h1:=Z1o [p,q,s] hk rfl;exact⟨⟨h1.cell 0,h1.cell 1,h1.cell 2⟩,Z0t (by omega) [p,q,s] W 0 hg,Z2a [p,q,s] hk (by decide) 0,Z2a [p,q,s] hk (by decide) 0⟩
 have HE0:=Za runEd0;have HC1:=Za (HLF.o wc HG.o);rw[hwa]at hwb;rw[hwb]at hwc;have HWC:=Za hwc;have HOX:=Za hx;have HPW:=Za hp;obtain⟨X,hX⟩:∃X,x=X:=⟨_,rfl⟩;have HXE:Hid (x=X):=hX;rw[hX]at HGOOD HOX;obtain⟨rt,tk,⟨EA,ed,es⟩⟩:=x;simp only[EdtM.v,Slc.v]at HC1⊢;simp only at HKE HWC;obtain⟨en,hen⟩:∃n,es.length=n:=⟨_,rfl⟩;have HXS:Hid (X.rate=rt∧X.tracks=tk∧X.cs.a=EA∧X.cs.c=ed∧X.cs.xs=es∧es.length=en):=by rw[←HXE.o];exact⟨rfl,rfl,rfl,rfl,rfl,hen⟩
 rw[hen]at HKE HC1 HWC⊢;have c0:wc.cell? ⟨b0,0,none⟩=some (.int .i64 rt):=HKE.o.cell 0;have c1:wc.cell? ⟨b0,1,none⟩=some (.int .i64 tk):=HKE.o.cell 1;have c2:wc.cell? ⟨b0,2,none⟩=some (.slice EA en ed):=HKE.o.cell 2;have c3:wc.cell? ⟨b0+1,0,none⟩=some (.int .i64 a):=HKP.o.cell 0;have c4:wc.cell? ⟨b0+1,1,none⟩=some (.int .i64 b):=HKP.o.cell 1;clear hwa hwb hwc hga hgb hgc hza hzb HLF hx hp hr hf hX HXE hen;go_enter Tryz.func6,Tryz.ntmps6;go_upto_region 1 with(fail);rw[←HWC.o];try simp only[hb0]
 have HB0:=Za hb0;clear hb0 HWC;go_wp2_with fail;refine HC1.o.mono ?_;rintro e w2 ⟨rfl,hg2⟩;have HGC2:Hid (Gq wc w2):=hg2;have HG2:Hid (Gq w0 w2):=HG.o.trans hg2;have HKR2:=Za (Z0o HKR.o hg2);clear hg2 c0 c1 c2 c3 c4 HC1;by_cases hf0:f=0
 case neg=>have HR:=Za (HBAD.o hf0);have hfb:(f !=0)=true:=(by simpa using hf0);obtain⟨k0,k1,k2,f0,f1,f2⟩:=HRB.o w2 HKR2.o;obtain⟨⟨x0,x1,x2⟩,hge, -, -⟩:=HEND.o w2 (.int .i64 0) (.int .i64 0) (.slice none 0 0) HG2.o HKR2.o;have HGE:=Za hge;have hrun:=HE0.o w2;clear hge hf0 HBAD HGOOD;go_wp2_with fail;exact bodyPost_ret (v:= .tuple #[.agg #[.int .i64 0,.int .i64 0,.slice none 0 0],.int .i64 f]) (by simp[results,Tryz.results6,go_sem,x0,x1,x2]) rfl (Z3e HR.o HGE.o)
 subst hf0;have hfb:((0:Int) !=0)=false:=rfl;obtain⟨⟨hed,hab⟩,hrr⟩:=HGOOD.o rfl;have HAB:Hid (0≤a∧a≤b∧b≤100000):=hab;obtain⟨L1,hL1⟩:∃L,X.x.cs.flatMap (Z2b a)=L:=⟨_,rfl⟩;obtain⟨L2,hL2⟩:∃L,L1.flatMap (Z2b b)=L:=⟨_,rfl⟩;have hxc:X.x.cs=es.map CliM.x:=by rw[←HXS.o.2.2.2.2.1];rfl
 have hv0:∀c∈X.x.cs,Z6s c:=fun c hc=>cliV_of (Z5c hed c hc);have HV1:Hid (∀c∈L1,Z6s c):=by rw[←hL1];exact flat_v hv0
 have HV2:Hid (∀c∈L2,Z6s c):=by rw[←hL2];exact flat_v HV1.o
 have hl0:X.x.cs.length≤300:=(Z94 hed).l;have HL1:Hid (L1.length≤600):=by rw[←hL1];exact flat_le hl0
 have HLL:Hid (L2.length≤1200):=by rw[←hL2];exact flat_le HL1.o
 have HRR:Hid (r=mkE Z0r 1000000 ⟨rt,tk,Z34 ((L2.filter (Z3w a b)).map (Z4h (-a)))⟩):=by rw[←hL2,←hL1,←HXS.o.1,←HXS.o.2.1];exact hrr
 have HC1:Hid (∀W,Gq w2 W→Calls Tryz.prog 18 #[.slice EA en ed,.int .i64 a,.slice none 0 0] W fun e w'=>Gq W w'∧∃s:Slc CliM,e= .returned (.slice s.a s.xs.length s.c)∧s.xs.map CliM.x=L1∧Rd w' s.a (s.xs.flatMap CliM.cs)∧∀y∈s.xs,Z2s w0 w' y):=fun W hW=>by have hg:Gq w0 W:=HG2.o.trans hW;have hok:=HOX.o.below hg;have h2:=HXS.o.2.2;have h:=Z67 EA ed es a w0 W hg (by have:=hok.cr;rw[h2.1,h2.2.2.1]at this;exact this) (fun y hy=> .inl (HOX.o.co y (by rw[h2.2.2.1];exact hy))) (fun y hy=>hv0 _ (by rw[hxc];exact List.mem_map.2 ⟨y,hy,rfl⟩)) (by have h3:=hl0;rw[hxc,List.length_map]at h3;omega) (HPW.o.below hg);rw[h2.2.2.2,←hxc,hL1]at h;exact h.mono fun e w' ⟨g1,s,g2,g3,g4,g5⟩=>⟨g1,s,g2,g3,Rd.of_own g4,g5⟩
 have HC2:Hid (∀(s:Slc CliM) (W:World),Gq w2 W→s.xs.map CliM.x=L1→Rd W s.a (s.xs.flatMap CliM.cs)→(∀y∈s.xs,Z2s w0 W y)→Calls Tryz.prog 18 #[.slice s.a s.xs.length s.c,.int .i64 b,.slice none 0 0] W fun e w'=>Gq W w'∧∃s:Slc CliM,e= .returned (.slice s.a s.xs.length s.c)∧s.xs.map CliM.x=L2∧Rd w' s.a (s.xs.flatMap CliM.cs)∧∀y∈s.xs,Z2s w0 w' y):=fun s W hW hm hr ht=>by have hg:Gq w0 W:=HG2.o.trans hW;have h:=Z67 s.a s.c s.xs b w0 W hg hr ht (fun y hy=>HV1.o _ (by rw[←hm];exact List.mem_map.2 ⟨y,hy,rfl⟩)) (by have h3:=HL1.o;rw[←hm,List.length_map]at h3;omega) (HPW.o.below hg);rw[hm,hL2]at h;exact h.mono fun e w' ⟨g1,s,g2,g3,g4,g5⟩=>⟨g1,s,g2,g3,Rd.of_own g4,g5⟩
 have HRT:Hid (Z0l rt∧Z0l tk):=by have h:=HOX.o;have h2:=HXS.o;exact⟨by rw[←h2.1];exact h.rate,by rw[←h2.2.1];exact h.tracks⟩
 have HMK:Hid (∀(A:Option Addr) (c:Nat) (ys:List CliM) (W:World),Gq w0 W→Rd W A (ys.flatMap CliM.cs)→(∀y∈ys,CliOk W y)→ys.length≤1000000→Calls Tryz.prog 19 #[.agg #[.int .i64 rt,.int .i64 tk,.slice EA en ed],.slice A ys.length c] W fun e w'=>∃A' c',e= .returned (.tuple #[ckV (Z0y Z0r 1000000 ⟨rt,tk,Z34 (ys.map CliM.x)⟩) (.agg #[.int .i64 rt,.int .i64 tk,.slice A' ys.length c']),.int .i64 (Z0y Z0r 1000000 ⟨rt,tk,Z34 (ys.map CliM.x)⟩)])∧RdT 39 w' A' ((Z1b CliM.x ys).flatMap CliM.cs)∧Gq W w'):=fun A c ys W hW h1 h2 h3=>
  Zfn rt tk EA en ed A c ys W HRT.o.1 HRT.o.2 h1 h2 h3 (HPW.o.below hW)
 have HFN:Hid (∀(ys:List CliM) (A:Option Addr) (c:Nat) (W W':World),ys.map CliM.x=(L2.filter (Z3w a b)).map (Z4h (-a))→Z0y Z0r 1000000 ⟨rt,tk,Z34 (ys.map CliM.x)⟩=0→Gq w0 W→Gq w0 W'→KpT 39 W W'→KpT 61 W W'→RdT 39 W A ((Z1b CliM.x ys).flatMap CliM.cs)→(∀y∈ys,Z2s w0 W y)→ys.length≤1000000→EdiR r w0 (.returned (.tuple #[.agg #[.int .i64 rt,.int .i64 tk,.slice A ys.length c],.int .i64 0])) W'):=fun ys A c W W' h1 h2 h3 h4 h5 h6 h7 h8 h9=>by
  have hm:(Z1b CliM.x ys).map CliM.x=Z34 (ys.map CliM.x):=Z3c id CliM.x ys;have hl:(Z1b CliM.x ys).length=ys.length:=Z7p ys;have hr:r=(⟨rt,tk,Z34 (ys.map CliM.x)⟩,0):=by rw[HRR.o,←h1];unfold mkE;rw[if_neg (by rw[h2];exact fun k=>k rfl)]
  refine⟨h4,⟨rt,tk,⟨A,c,Z1b CliM.x ys⟩⟩, ?_, ?_,HRT.o.1,HRT.o.2, ?_, ?_,fun z hz=> ?_⟩
  · rw[hr];show _=Ending.returned (.tuple #[.agg #[.int .i64 rt,.int .i64 tk,.slice A (Z1b CliM.x ys).length c],.int .i64 0]);rw[hl]
  · rw[hr,←hm];rfl
  · show(Z1b CliM.x ys).length≤_;omega
  · exact(h7.kp h5).rd
  · exact((h8 z ((Z2e CliM.x ys).mem_iff.1 hz)).kp h6).ok h4
 obtain⟨ii,hii,hzi0,hzi1,hzi2⟩:=info_parts Z7j;have HII:=Za (And.intro hii (And.intro hzi0 (And.intro hzi1 hzi2)));have HBE:Hid (Blk w2.drew b0 24 [.int .i64 rt,.int .i64 tk,.slice EA en ed]):=Z0o HKE.o HGC2.o.drew;have HBP:Hid (Blk w2.drew (b0+1) 26 [.int .i64 a,.int .i64 b]):=Z0o HKP.o HGC2.o.drew;have HBE2:Hid (Blk w2 b0 24 [.int .i64 rt,.int .i64 tk,.slice EA en ed]):=Z0o HKE.o HGC2.o;have HBP2:Hid (Blk w2 (b0+1) 26 [.int .i64 a,.int .i64 b]):=Z0o HKP.o HGC2.o;have HBR:=HKR2;clear hed hab hrr hL1 hL2 hxc hv0 hl0 hii hzi0 hzi1 hzi2 HGOOD HBAD HV1 HL1 HOX HXS HRT HKE HKP HKR HE0;go_upto_region 5 with(fail);refine Z00 _ (by kernel_rfl) [[],[0],[],[2],[0,1,2,3],[],[5],[0,1,2,3,4,5,6],[0,1,2,3,4,5,6,7],[]] (by kernel_rfl) (by kernel_rfl) [some 17,some 18,some 19,some 20,some 21,some 22,some 23,some 24,some 25,some 26] (by kernel_rfl) (fun vs=>by simp only[Go.Dwo.putA,Go.Dwo.putL,if_true,Act.put,Zb,Zc,Zd];rfl) (exrF w0 w2 b0 rt tk a b EA en ed L1 L2) (by kernel_rfl) ?_ ⟨?_, ?_, ?_, ?_, ?_, ?_, ?_, ?_, ?_, ?_,trivial⟩ ?_
 · exact fcZ [0,1,2] rfl<|fcL ((Gq.refl _).drew)<|fcL (HBE.o)<|fcL (HBP.o)<|fcN _
 · intro Ls vs w Kk H hu hD hK;go_simp;exact fcV hK (fcP 3 rfl rfl fun _=>rfl)
 · intro Ls vs w Kk H hu hD hK;have ke:Blk w b0 24 [.int .i64 rt,.int .i64 tk,.slice EA en ed]:=fcG H hu hD 1 rfl rfl rfl;have f0:vs 0= .pointer (some ⟨b0,2,none⟩):=fcG H hu hD 3 rfl rfl rfl;have y2:w.cell? ⟨b0,2,none⟩=_:=ke.cell 2;simp only[Ze,Zf]at y2;go_simp;exact fcV hK (fcP 4 rfl rfl fun _=>rfl)
 · intro Ls vs w Kk H hu hD hK;go_simp;exact fcV hK (fcP 5 rfl rfl fun _=>rfl)
 · intro Ls vs w Kk H hu hD hK;have kp:Blk w (b0+1) 26 [.int .i64 a,.int .i64 b]:=fcG H hu hD 2 rfl rfl rfl;have f2:vs 2= .pointer (some ⟨b0+1,0,none⟩):=fcG H hu hD 5 rfl rfl rfl;have y0:w.cell? ⟨b0+1,0,none⟩=_:=kp.cell 0;simp only[Ze]at y0;go_simp;exact fcV hK (fcP 6 rfl rfl fun _=>rfl)
 · intro Ls vs w Kk H hu hD hK;have h0:Gq w2 w:=fcG H hu hD 0 rfl rfl rfl;have f1:vs 1= .slice EA en ed:=fcG H hu hD 4 rfl rfl rfl;have f3:vs 3= .int .i64 a:=fcG H hu hD 6 rfl rfl rfl;go_simp;refine(HC1.o w h0).mono ?_;rintro e w' ⟨hb,s,rfl,hm,hr,ht⟩;exact⟨_,rfl,fcC hK (fun f hf _ h=>exrK w0 w2 b0 rt tk a b EA en ed L1 L2 f hf _ _ _ hb h) (fcP 7 rfl rfl fun _=>⟨s,rfl,hm,hr,ht⟩)⟩
 · intro Ls vs w Kk H hu hD hK;go_simp;exact fcV hK (fcP 8 rfl rfl fun _=>rfl)
 · intro Ls vs w Kk H hu hD hK;have kp:Blk w (b0+1) 26 [.int .i64 a,.int .i64 b]:=fcG H hu hD 2 rfl rfl rfl;have f5:vs 5= .pointer (some ⟨b0+1,1,none⟩):=fcG H hu hD 8 rfl rfl rfl;have y1:w.cell? ⟨b0+1,1,none⟩=_:=kp.cell 1;simp only[Ze,Zf]at y1;go_simp;exact fcV hK (fcP 9 rfl rfl fun _=>rfl)
 · intro Ls vs w Kk H hu hD hK;have h0:Gq w2 w:=fcG H hu hD 0 rfl rfl rfl;obtain⟨s4,e4,m4,r4,t4⟩:∃s:Slc CliM,vs 4= .slice s.a s.xs.length s.c∧s.xs.map CliM.x=L1∧Rd w s.a (s.xs.flatMap CliM.cs)∧∀y∈s.xs,Z2s w0 w y:=fcG H hu hD 7 rfl rfl rfl;have f6:vs 6= .int .i64 b:=fcG H hu hD 9 rfl rfl rfl;go_simp;refine(HC2.o s4 w h0 m4 r4 t4).mono ?_;rintro e w' ⟨hb,s,rfl,hm,hr,ht⟩;exact⟨_,rfl,fcC hK (fun f hf _ h=>exrK w0 w2 b0 rt tk a b EA en ed L1 L2 f hf _ _ _ hb h) (fcK [10,11] rfl<|fcL (fun _=>⟨s,rfl,hm,hr,ht⟩)<|fcL (fun hL=>absurd (show(7:Nat)∈([0,1,2,3,4,5,6,7]:List Nat)from by decide) (hL 8 (show(8:Nat)∈([7,8]:List Nat)from by decide) (show(8:Nat)≠7 from by decide)).2)<|fcN _)⟩
 · intro Ls vs w Kk H hu hD hK;obtain⟨s7,e7,m7,r7,t7⟩:∃s:Slc CliM,vs 7= .slice s.a s.xs.length s.c∧s.xs.map CliM.x=L2∧Rd w s.a (s.xs.flatMap CliM.cs)∧∀y∈s.xs,Z2s w0 w y:=fcG H hu hD 10 rfl rfl rfl;go_simp;exact fcV hK (fcP 11 rfl rfl fun _=>⟨s7,e7,rfl,m7,r7,t7⟩)
 · intro Ls vs w Kk H hu hD hK;go_simp;exact fcV hK (fcP 12 rfl rfl fun _=>rfl)
 ·
  intro vs w H;have h0:Gq w2 w:=fcE H 0 rfl rfl;obtain⟨s8,e8,e8b,m8,r8,t8⟩:∃s:Slc CliM,vs 7= .slice s.a s.xs.length s.c∧vs 8= .int .i64 (s.xs.length:Int)∧s.xs.map CliM.x=L2∧Rd w s.a (s.xs.flatMap CliM.cs)∧∀y∈s.xs,Z2s w0 w y:=fcE H 11 rfl rfl;have f9:vs 9= .int .i64 0:=fcE H 12 rfl rfl;clear H;simp only[Nat.zero_add,Nat.reduceAdd];have HG5:Hid (Gq w2 w):=h0;clear h0;obtain⟨SA,sc,ss⟩:=s8;simp only at e8 e8b m8 r8 t8;have HRD:=Za r8;have HST:=Za t8;have HSM:Hid (ss.map CliM.x=L2):=by show _=_;rw[m8]
  have HSL:Hid (ss.length≤1200):=by have h:=congrArg List.length m8;rw[List.length_map]at h;have h2:=HLL.o;show _≤_;omega
  clear m8 r8 t8;rw[e8,e8b,f9];clear e8 e8b f9;obtain⟨w5,hw5⟩:∃W,W=w:=⟨_,rfl⟩;rw[←hw5]at HG5 HRD HST⊢;clear hw5 w;generalize vs 0=z0,vs 1=z1,vs 2=z2,vs 3=z3,vs 4=z4,vs 5=z5,vs 6=z6;have HG05:Hid (Gq w0 w5):=HG2.o.trans HG5.o;have HKE5:=Za (Z0o HBE2.o HG5.o);have HKP5:=Za (Z0o HBP2.o HG5.o);have HKR5:=Za (Z0o HBR.o HG5.o);go_wp2_with fail
  go_loopw [7,26] (fun ov kv wq=>∃(k:Nat) (ys:List CliM) (AO:Option Addr) (cO:Nat),k≤ss.length∧kv= .int .i64 (k:Int)∧ov= .slice AO ys.length cO∧Hid (ys.map CliM.x=(((ss.take k).map CliM.x).filter (Z3w a b)).map (Z4h (-a))∧ys.length≤k)∧Hid (wq.ownsRow w5.heap.size 39 7 (.slice AO ys.length cO) ys.length (ys.flatMap CliM.cs)∧(∀y∈ys,Z2s w0 wq y)∧Gq w5 wq)) (fun _ kv _=>ss.length - (intOf kv).toNat)
  case atStart=>exact⟨0,[],none,0,Nat.zero_le _,rfl,rfl,⟨rfl,Zh _⟩,World.ownsRow_nil _ _ _ _,(fun y hy=>by simp at hy),Gq.refl _⟩
  case round=>
   obtain⟨k,ys,AO,cO,hk,rfl,rfl,HM,HW⟩:=hrel;by_cases hlt:k<ss.length
   case neg=>
    have hd0:decide (k<ss.length)=false:=(by simpa using hlt);have HYX:Hid (ys.map CliM.x=(L2.filter (Z3w a b)).map (Z4h (-a))):=(by have h:=HM.o.1;rw[Zl (by omega),HSM.o]at h;exact h);have hyl:ys.length≤1200:=(by have h1:=HM.o.2;have h2:=HSL.o;omega);have HGW:Hid (Gq w0 wr):=HG05.o.trans HW.o.2.2;have HCM:=Za (HMK.o AO cO ys wr HGW.o (Rd.of_own HW.o.1) (fun y hy=>(HW.o.2.1 y hy).ok HGW.o) (by omega));have hke:=Z0o HKE5.o HW.o.2.2;have g0:wr.cell? ⟨b0,0,none⟩=some (.int .i64 rt):=hke.cell 0;have g1:wr.cell? ⟨b0,1,none⟩=some (.int .i64 tk):=hke.cell 1;have g2:wr.cell? ⟨b0,2,none⟩=some (.slice EA en ed):=hke.cell 2;obtain⟨yn,hyn⟩:∃m:Nat,ys.length=m:=⟨_,rfl⟩;have HYN:=Za hyn;rw[hyn]at HCM⊢;clear hlt hke hyn;go_wp2_with fail;refine HCM.o.mono ?_;rintro e w9 ⟨A9,c9,rfl,hr9,hg9⟩;have HG9:Hid (Gq w0 w9):=HGW.o.trans hg9;have HR9:=Za hr9;have HS9:Hid (∀y∈ys,Z2s w0 w9 y):=fun y hy=>(HW.o.2.1 y hy).gq hg9;have HKR9:=Za (Z0o HKR5.o (HW.o.2.2.trans hg9));obtain⟨k0,k1,k2,f0,f1,f2⟩:=HRB.o w9 HKR9.o;clear hr9 hg9 HCM g0 g1 g2;obtain⟨ff,hff⟩:∃f,Z0y Z0r 1000000 ⟨rt,tk,Z34 (ys.map CliM.x)⟩=f:=⟨_,rfl⟩;have HFF:=Za hff;rw[hff];clear hff;by_cases hf0:ff=0
    · subst hf0;rw[Zas];obtain⟨⟨x0,x1,x2⟩,hge,hkc,hkp⟩:=HEND.o w9 (.int .i64 rt) (.int .i64 tk) (.slice A9 yn c9) HG9.o HKR9.o;have HFIN:=Za (HFN.o ys A9 c9 w9 _ HYX.o HFF.o HG9.o hge hkc hkp HR9.o HS9.o (by omega));rw[HYN.o]at HFIN;clear hge hkc hkp;go_wp2_with fail;exact bodyPost_ret (v:= .tuple #[.agg #[.int .i64 rt,.int .i64 tk,.slice A9 yn c9],.int .i64 0]) (by simp[results,Tryz.results6,go_sem,x0,x1,x2]) rfl HFIN.o
    · rw[Z7i hf0];obtain⟨⟨x0,x1,x2⟩,hge, -, -⟩:=HEND.o w9 (.int .i64 0) (.int .i64 0) (.slice none 0 0) HG9.o HKR9.o;have HFIN:=Za (Z3e (r:=r) (f:=ff) (by rw[HRR.o,←HYX.o,Z7h (by rw[HFF.o];exact hf0),HFF.o]) hge);clear hge hf0;go_wp2_with fail;exact bodyPost_ret (v:= .tuple #[.agg #[.int .i64 0,.int .i64 0,.slice none 0 0],.int .i64 ff]) (by simp[results,Tryz.results6,go_sem,x0,x1,x2]) rfl HFIN.o
   have hd0:decide (k<ss.length)=true:=(by simpa using hlt);have hk9:k≤1200:=(by have:=HSL.o;omega);have i0:(0:Int)≤(k:Int):=(by omega);have i1:(k:Int)<(ss.length:Int):=(by omega);obtain⟨bb,off,hA2,hbb,hcs⟩:=Z4b (HRD.o.below HW.o.2.2) (show 0<ss.length by omega);subst hA2;obtain⟨p0,p1,p2,p3,p4,p5,p6⟩:=hcs k hlt;have HCO:Hid (Z2s w0 wr ss[k]):=(HST.o _ (Zn hlt)).gq HW.o.2.2;have HCB:=Za (HV2.o ss[k].x (by rw[←HSM.o];exact List.mem_map.2 ⟨_,Zn hlt,rfl⟩)).bnd;have HTK:Hid ((ss.take (k+1)).map CliM.x=(ss.take k).map CliM.x++ [ss[k].x]):=(by show _=_;rw[List.take_succ_eq_append_getElem hlt,List.map_append];rfl);clear hcs hbb;obtain⟨Z,hZ⟩:∃X,ss[k]=X:=⟨_,rfl⟩;rw[hZ]at p0 p1 p2 p3 p4 p5 p6 HCO HCB HTK;clear hZ;obtain⟨zm,hzm⟩:∃z:CliM,z=⟨Z.m,Z.ch,Z.fr,Z.tr,Z.at_ - a,Z.ln,Z.e⟩:=⟨_,rfl⟩;have HZM:Hid (Z2s w0 wr zm):=(by rw[hzm];exact HCO.o.at_ (by have h:=HCB.o;have h2:=HAB.o;simp only[CliM.x]at h;unfold Z0l;omega));have HZXM:Hid (zm.x=Z4h (-a) Z.x):=(by rw[hzm];rfl);have HIN:Hid (a≤Z.at_→Z.at_+Z.ln≤b→(((ss.take (k+1)).map CliM.x).filter (Z3w a b)).map (Z4h (-a))=(((ss.take k).map CliM.x).filter (Z3w a b)).map (Z4h (-a))++ [zm.x]):=fun h1 h2=>(by rw[HTK.o,List.filter_append,List.map_append,List.filter_cons_of_pos (by unfold Z3w;exact decide_eq_true ⟨h1,h2⟩),HZXM.o];rfl);have HOUT:Hid (¬(a≤Z.at_∧Z.at_+Z.ln≤b)→(((ss.take (k+1)).map CliM.x).filter (Z3w a b)).map (Z4h (-a))=(((ss.take k).map CliM.x).filter (Z3w a b)).map (Z4h (-a))):=fun h=>(by rw[HTK.o,List.filter_append,List.map_append,List.filter_cons_of_neg (by unfold Z3w;rw[decide_eq_true_eq];exact h)];simp);have HZB:Hid (0≤Z.at_∧Z.at_≤100000∧0≤Z.ln∧Z.ln≤100000):=(by have h:=HCB.o;simp only[CliM.x]at h;exact⟨by omega,by omega,by omega,by omega⟩);obtain⟨xm,xc,xf,xt,xa,xl,⟨EC,cd,es⟩⟩:=Z;obtain⟨cn,hcn⟩:∃n,es.length=n:=⟨_,rfl⟩;have HZC:Hid (zm.cs= [.string xm,.int .i64 xc,.int .i64 xf,.int .i64 xt,.int .i64 (xa - a),.int .i64 xl,.slice EC cn cd]):=(by rw[hzm,←hcn];rfl);simp only at p0 p1 p2 p3 p4 p5 p6 HIN HOUT HZB;rw[hcn]at p6;clear hzm hcn HCO HCB HTK HZXM;have hz1:=HZB.o;have hz2:=HAB.o;have hwe:IntKind.i64.wrap (xa+xl)=xa+xl:=IntWalk.i64_in _ (by omega);have hwm:IntKind.i64.wrap (xa - a)=xa - a:=IntWalk.i64_in _ (by omega);clear hz1 hz2;obtain⟨wa,hwa⟩:∃wa,wa=wr.alloc (.cells #[.string xm,.int .i64 xc,.int .i64 xf,.int .i64 xt,.int .i64 xa,.int .i64 xl,.slice EC cn cd] 39):=⟨_,rfl⟩;have HKC:Hid (Blk wa wr.heap.size 39 [.string xm,.int .i64 xc,.int .i64 xf,.int .i64 xt,.int .i64 xa,.int .i64 xl,.slice EC cn cd]):=(by rw[hwa];exact Blk.new wr _ _);have HGA:Hid (Gq wr wa):=(by rw[hwa];exact(Gq.refl _).alloc _);have HGA5:Hid (Gq w5 wa):=HW.o.2.2.trans HGA.o;have hkp:=Z0o HKP5.o HGA5.o;have a4:wa.cell? ⟨wr.heap.size,4,none⟩=some (.int .i64 xa):=HKC.o.cell 4;have a5:wa.cell? ⟨wr.heap.size,5,none⟩=some (.int .i64 xl):=HKC.o.cell 5;have f4:=HKC.o.frozen 4;have g0:wa.cell? ⟨b0+1,0,none⟩=some (.int .i64 a):=hkp.cell 0;have g1:wa.cell? ⟨b0+1,1,none⟩=some (.int .i64 b):=hkp.cell 1;have HOA:Hid (wa.ownsRow w5.heap.size 39 7 (.slice AO ys.length cO) ys.length (ys.flatMap CliM.cs)):=Z04 HW.o.1 HGA.o;have HSA:Hid (∀u∈ys,Z2s w0 wa u):=fun u hu=>(HW.o.2.1 u hu).gq HGA.o;have HML:Hid (ys.map CliM.x=(((ss.take k).map CliM.x).filter (Z3w a b)).map (Z4h (-a))∧ys.length≤k):=HM.o;have HWA:=Za hwa;clear hwa hkp HM;go_upto_region 8 with(fail);rw[←HWA.o];clear p0 p1 p2 p3 p4 p5 p6;by_cases h1:a≤xa
   case neg=>
    have hd1:decide (a≤xa)=false:=decide_eq_false h1;have hd2:decide (xa≥a)=false:=decide_eq_false h1;have HN:=Za (HOUT.o (fun h=>h1 h.1));clear h1 HIN HOUT HWA;go_wp2_with fail;go_roundw
    case rel=>exact⟨k+1,ys,AO,cO,hlt,by go_num,rfl,⟨by rw[HN.o];exact HML.o.1,by have:=HML.o.2;omega⟩,HOA.o,HSA.o,HGA5.o⟩
    case measure=>simp[intOf];omega
   have hd1:decide (a≤xa)=true:=decide_eq_true h1;have hd2:decide (xa≥a)=true:=decide_eq_true h1;by_cases h2:xa+xl≤b
   case neg=>
    have hd3:decide (xa+xl≤b)=false:=decide_eq_false h2;have HN:=Za (HOUT.o (fun h=>h2 h.2));clear h1 h2 HIN HOUT HWA;go_wp2_with fail;go_roundw
    case rel=>exact⟨k+1,ys,AO,cO,hlt,by go_num,rfl,⟨by rw[HN.o];exact HML.o.1,by have:=HML.o.2;omega⟩,HOA.o,HSA.o,HGA5.o⟩
    case measure=>simp[intOf];omega
   have hd3:decide (xa+xl≤b)=true:=decide_eq_true h2;have HN:=Za (HIN.o h1 h2);obtain⟨wd,hwd⟩:∃wd,wd=wa.setCell ⟨wr.heap.size,4,none⟩ (.int .i64 (xa - a)):=⟨_,rfl⟩;have HKD:Hid (Blk wd wr.heap.size 39 [.string xm,.int .i64 xc,.int .i64 xf,.int .i64 xt,.int .i64 (xa - a),.int .i64 xl,.slice EC cn cd]):=(by rw[hwd];exact HKC.o.set_ 4 (.int .i64 (xa - a)));have HGD:Hid (Gq wr wd):=(by rw[hwd];exact HGA.o.setCell (p:=⟨wr.heap.size,4,none⟩) (Zh _) _);have HO8:Hid (wd.ownsRow w5.heap.size 39 7 (.slice AO ys.length cO) ys.length (ys.flatMap CliM.cs)):=Z04 HW.o.1 HGD.o;have HS8:Hid (∀u∈ys,Z2s w0 wd u):=fun u hu=>(HW.o.2.1 u hu).gq HGD.o;have HZ8:Hid (Z2s w0 wd zm):=HZM.o.gq HGD.o;have HG8:Hid (Gq w5 wd):=HW.o.2.2.trans HGD.o;have HB8:Hid (w5.heap.size≤wd.heap.size):=Below.size HG8.o;have a0:wd.cell? ⟨wr.heap.size,0,none⟩=some (.string xm):=HKD.o.cell 0;have a1:wd.cell? ⟨wr.heap.size,1,none⟩=some (.int .i64 xc):=HKD.o.cell 1;have a2:wd.cell? ⟨wr.heap.size,2,none⟩=some (.int .i64 xf):=HKD.o.cell 2;have a3:wd.cell? ⟨wr.heap.size,3,none⟩=some (.int .i64 xt):=HKD.o.cell 3;have a4':wd.cell? ⟨wr.heap.size,4,none⟩=some (.int .i64 (xa - a)):=HKD.o.cell 4;have a5':wd.cell? ⟨wr.heap.size,5,none⟩=some (.int .i64 xl):=HKD.o.cell 5;have a6:wd.cell? ⟨wr.heap.size,6,none⟩=some (.slice EC cn cd):=HKD.o.cell 6;have hy8:ys.length≤1200:=(by have:=HML.o.2;have:=HSL.o;omega);have HWD:=Za hwd;clear hwd h1 h2 HIN HOUT HWA HOA HSA HZM;go_upto_region 10 with(fail);rw[←HWD.o];clear a4 a5 f4 g0 g1;go_wp2_with (at_builtin; (refine wpList_append_own _ rfl _ _ 22 rfl w5.heap.size 39 ii _ 7 80 Tryz.underlying22 HII.o.1 HII.o.2.1 HII.o.2.2.1 HII.o.2.2.2 rfl (by decide) (.slice AO ys.length cO) ys.length (ys.flatMap CliM.cs) rfl (HO8.o.alloc _) ⟨wd.heap.size,0,none⟩ 1 1 [.string xm,.int .i64 xc,.int .i64 xf,.int .i64 xt,.int .i64 (xa - a),.int .i64 xl,.slice EC cn cd] (by rfl) (by rfl) (World.news_of_block (cs:= #[.string xm,.int .i64 xc,.int .i64 xf,.int .i64 xt,.int .i64 (xa - a),.int .i64 xl,.slice EC cn cd]) (t:=39) (fr:=(0,0)) (by exact heap_alloc_new wd _)) (by simp[Value.oneCell']) (by unfold maxLen;omega) (by omega) (by have:=HB8.o;simp;omega) ?_);intro v9 w9 hown9 hgrow9 _;rw[←HZC.o]at hown9;have hend:=exr_end HG8.o HO8.o HS8.o HZ8.o hown9 hgrow9;obtain⟨A9,c9,rfl⟩:=Z08 hown9;have HE9:=Za hend;clear hend hown9 hgrow9);go_roundw
   case rel=>exact⟨k+1,ys++ [zm],A9,c9,hlt,by go_num,by rw[Zj];rfl,⟨by rw[List.map_append,HML.o.1,HN.o];rfl,by rw[Zj];have:=HML.o.2;show ys.length+1≤_;omega⟩,Zf6 HE9.o.2.1,HE9.o.2.2,HE9.o.1⟩
   case measure=>simp[intOf];omega
end Go.Proofs.YtcemlhbfemenpaaGreatDoor
