/- Several texts laid into one: A box whose cells are all written; append onto a row of the call's own, of any slice that reads as cells (nil too); Several texts laid into one: Rows of the call's own and boxes beside them, where a cell is written or a row grows; The contract of slices.Clone at []api.Point; The contracts of edit.own and edit.owned: clips of the call's own; The contract of edit.ordered: a row of clips of the call's own is put in order, in place; The contracts of edit.checked and edit.checkTwo;; A region by facts: an append of any slice that reads as cells; -/
import Derived.Test.YtcemlhbfemenpaaGreatDoorStbZ
import Derived.Test.YtcemlhbfemenpaaGreatDoorOrdZ
import Derived.Test.YtcemlhbfemenpaaGreatDoorShIns
import Derived.Test.YtcemlhbfemenpaaGreatDoorCliZ
import Derived.Test.YtcemlhbfemenpaaGreatDoorEdiR
set_option maxHeartbeats 8000000
set_option maxRecDepth 100000
namespace Go.Dw
open Go Go.RowKit
theorem Z0o {w w':World}{g:Nat}{t:TypeId}{cs:List Value}(h:Blk w g t cs)(hb:Below w.heap.size w w'):Blk w' g t cs:=(hb.block g h.lt).trans h
def Z4s (W:World)(g:Nat):Nat→List Value→World
 |_,[]=>W
 |i,v::vs=>Z4s (W.setCell ⟨g,i,none⟩ v) g (i+1) vs
theorem Zat {g:Nat}{t:TypeId}:∀(vs:List Value) (W:World) (i:Nat) (pre cs:List Value),Blk W g t (pre++cs)→pre.length=i→cs.length=vs.length→Blk (Z4s W g i vs) g t (pre++vs)
 | [],W,i,pre,cs,h,_,hl=>by have:cs= []:=Zk hl;subst this;exact h
 |v::vs,W,i,pre,cs,h,hi,hl=>by
  cases cs with
  |nil=>simp at hl
  |cons c cs=>
   have h1:=h.set_ i v;have e:(pre++c::cs).set i v=(pre++ [v])++cs:=(by rw[List.set_append_right _ _ (by omega),hi];simp);rw[e]at h1;have:=Zat vs (W.setCell ⟨g,i,none⟩ v) (i+1) (pre++ [v]) cs h1 (by simp[hi]) (by simpa using hl);simpa [Z4s]using this
theorem Z1o {g:Nat}{t:TypeId}{W:World}{cs:List Value}(vs:List Value)(h:Blk W g t cs)(hl:cs.length=vs.length):Blk (Z4s W g 0 vs) g t vs:=by
 have:=Zat vs W 0 [] cs (by simpa using h) rfl hl;simpa using this
theorem Z0t {w0:World}{B g:Nat}(hg:B≤g):∀(vs:List Value) (W:World) (i:Nat),Below B w0 W→Below B w0 (Z4s W g i vs)
 | [],_,_,h=>h
 |v::vs,_,i,h=>Z0t hg vs _ (i+1) (h.setCell (p:=⟨g,i,none⟩) hg v)
theorem Z4i {g:Nat}:∀(vs:List Value) (W:World) (i j:Nat),j≠g→(Z4s W g i vs).heap[j]? =W.heap[j]?
 | [],_,_,_,_=>rfl
 |v::vs,W,i,j,h=>(Z4i vs _ (i+1) j h).trans (Below.heap_setCell W ⟨g,i,none⟩ v j (by exact h))
theorem Z8g {g:Nat}:∀(vs:List Value) (W:World) (i:Nat),(Z4s W g i vs).heap.size=W.heap.size
 | [],_,_=>rfl
 |v::vs,W,i=>(Z8g vs _ (i+1)).trans (by simp[World.setCell])
theorem Z2a {T T':TypeId}{g:Nat}{W:World}{cs:List Value}(vs:List Value)(h:Blk W g T' cs)(hne:T'≠T)(i:Nat):KpT T W (Z4s W g i vs):=
 ⟨by rw[Z8g];exact Zh _,fun b cs' fr hb=>Z4i vs W i b fun e=>by
  subst e;unfold Blk at h;rw[hb]at h;injection h with h;injection h with _ h
  exact hne h.symm⟩
theorem Z6n (w:World)(r:Option Nat):w.grownBy w r:=⟨rfl,rfl,rfl,Zh _,fun _ _ _=>rfl⟩
theorem Z2o {P:Program}{w:World}(base:Nat)(t ty e:TypeId)(i:TypeInfo)(size:Nat)(ht:P.underlying t=some (.slice e))(hi:P.info? e=some i)
  (v:Value) (n:Nat) (xs:List Value) (hown:w.ownsRow base e size v n xs) (c:Nat):
  (Builtin.append_ #[t,t] ty #[v,.slice none 0 c]).run P w= .ok v w:=by
 rcases hown.2 with⟨rfl,rfl⟩|⟨g,cap,cur,rfl,_,_,hnc,_⟩
 · simp[Builtin.append_,run_underlying ht,sizeOf,typeInfo,hi,Builtin.lenOf,Builtin.firstCells]
 · simp[Builtin.append_,run_underlying ht,sizeOf,typeInfo,hi,Builtin.lenOf,Builtin.firstCells,hnc,storeCells]
theorem Z30 {P:Program}{w:World}{ops:Array Oper}{rest:List Oper}{o:Oper}{a:Act}{Q:Exit→Act→World→Prop}(hgd:o.guard=none)(s x:Operand)(t:TypeId)
  (ho:o.op= .call {callee:= .builtin .append,args:= #[s,x],argTypes:= #[t,t]})
  (base:Nat) (e:TypeId) (i:TypeInfo) (z:Value) (size bytes:Nat) (ht:P.underlying t=some (.slice e)) (hi:P.info? e=some i) (hz:i.zero=some z)
  (hsize:i.size=size) (hby:i.bytes=bytes) (hzs:z.cells.size=size) (hsz:0<size)
  (v:Value) (n:Nat) (xs:List Value) (hs:a.eval s=v) (hown:w.ownsRow base e size v n xs)
  (A:Option Addr) (m c:Nat) (news:List Value) (hx:a.eval x= .slice A m c) (hl:news.length=m*size) (hR:Rd w A news) (h1:∀u∈news,u.oneCell'=true)
  (h63:n+m≤maxLen) (hbytes:(n+m)*bytes≤140737488355328) (hbase:base≤w.heap.size)
  (h:∀v' w',w'.ownsRow base e size v' (n+m) (xs++news)→w.grownBy w' v.ownBlock→wpList P ops Q rest (a.put o.dst v') w'):wpList P ops Q (o::rest) a w:=by
 cases A with
 |none=>
  have h0:news= []:=by
   rcases hR with hR|⟨b,off,e,_⟩
   · exact hR
   · cases e
  subst h0
  have hm:m=0:=by
   rcases Nat.eq_zero_or_pos m with k|k
   · exact k
   · have:=Nat.mul_pos k hsz;simp at hl;omega
  subst hm;refine wpList_plain hgd fun K hK=> ?_;have hrun:=Z2o (P:=P) (w:=w) base t o.type e i size ht hi v n xs hown c;unfold Oper.wp;simp[execOp,ho,resolve,invoke,builtin,hs,hx,hrun,Result.andThen];exact hK _ _ (h v w (by simpa using hown) (Z6n w _))
 |some ad=>
  refine wpList_append_own w hgd s x t ho base e i z size bytes ht hi hz hsize hby hzs hsz v n xs hs hown ad m c news hx hl ?_ h1 h63 hbytes hbase fun v' w' h2 h3 _=>h v' w' h2 h3;intro j u hu;rcases hR with hR|⟨b,off,e,hb,hc⟩
  · subst hR;simp at hu
  · injection e with e;subst e;have hadd:(⟨b,off,none⟩:Addr).add j=⟨b,off+j,none⟩:=(by unfold Addr.add;split<;>simp_all);rw[hadd];exact hc j u hu
theorem Rd.left {w:World}{A:Option Addr}{xs ys:List Value}(h:Rd w A (xs++ys)):Rd w A xs:=by
 rcases h with h|⟨b,off,e,hb,hc⟩
 · exact .inl (List.append_eq_nil_iff.1 h).1
 · exact .inr ⟨b,off,e,hb,fun j u hu=>hc j u (by rw[List.getElem?_append_left (List.getElem?_eq_some_iff.1 hu).1];exact hu)⟩
theorem Rd.part {w:World}{b off:Nat}{xs ys zs:List Value}(h:Rd w (some ⟨b,off,none⟩) (xs++ys++zs)):Rd w (some ⟨b,off+xs.length,none⟩) ys:=by
 rcases h with h|⟨b',off',e,hb,hc⟩
 · left;simp only[List.append_eq_nil_iff]at h;exact h.1.2
 ·
  injection e with e;injection e with e1 e2 e3;subst e1 e2;refine .inr ⟨b,off+xs.length,rfl,hb,fun j u hu=> ?_⟩
  have:=hc (xs.length+j) u (by
   rw[List.append_assoc,List.getElem?_append_right (by omega),Nat.add_sub_cancel_left,List.getElem?_append_left (List.getElem?_eq_some_iff.1 hu).1]
   exact hu)
  rw[Nat.add_assoc];exact this
theorem Rd.tail_ {w:World}{A:Option Addr}{xs ys:List Value}{c k m:Nat}(h:Rd w A (xs++ys))(hk:xs.length=m)(hc:c=k→ys= []):Rd w (if c=k then A else Option.map (fun x=>x.add m) A) ys:=by
 by_cases h0:ys= []
 · exact .inl h0
 ·
  rw[if_neg (fun e=>h0 (hc e))];rcases h with h|⟨b,off,e,hb,hcell⟩
  · exact absurd (List.append_eq_nil_iff.1 h).2 h0
  · subst e;have hadd:(⟨b,off,none⟩:Addr).add m=⟨b,off+m,none⟩:=(by unfold Addr.add;split<;>simp_all);refine .inr ⟨b,off+m,by rw[Option.map_some,hadd],hb,fun j u hu=> ?_⟩;have:=hcell (m+j) u (by rw[List.getElem?_append_right (by omega),hk,Nat.add_sub_cancel_left];exact hu);rw[Nat.add_assoc];exact this
theorem Z5e {w:World}{B B' n size:Nat}{e:TypeId}{v:Value}{xs:List Value}(h:w.ownsRow B e size v n xs)(hb:B'≤B):w.ownsRow B' e size v n xs:=by
 refine⟨h.1, ?_⟩;rcases h.2 with hn|⟨g,cap,cur,hv,hg,r⟩
 · exact .inl hn
 · exact .inr ⟨g,cap,cur,hv,Nat.le_trans hb hg,r⟩
theorem Zef (w:World)(p:Addr)(u:Value):w.grownBy (w.setCell p u) (some p.block):=
 ⟨rfl,rfl,rfl,by simp[World.setCell],fun k _ hne=>Below.heap_setCell w p u k (fun e=>hne (by rw[e]))⟩
theorem Z9j {w:World}{B n size:Nat}{e:TypeId}{v:Value}{xs:List Value}(h:w.ownsRow B e size v n xs){p:Addr}(hp:p.block<B)(u:Value):(w.setCell p u).ownsRow B e size v n xs:=
 h.kept (Zef w p u) (.inr fun e=>by have:=(h.lt _ e).1;omega)
theorem Zc4 {w w':World}{g:Nat}{t:TypeId}{cs:List Value}{row:Option Nat}(h:Blk w g t cs)(hg:w.grownBy w' row)(hne:some g≠row):Blk w' g t cs:=(hg.block g h.lt hne).trans h
theorem Z5f {w:World}{g:Nat}{t:TypeId}{cs:List Value}(h:Blk w g t cs){p:Addr}(hp:g≠p.block)(u:Value):Blk (w.setCell p u) g t cs:=(Below.heap_setCell w p u g hp).trans h
theorem own_cap {w:World}{B n size c:Nat}{e:TypeId}{A:Option Addr}{xs:List Value}(h:w.ownsRow B e size (.slice A n c) n xs):n≤c∧(A=none→c=0):=by
 rcases h.2 with⟨h1,h2⟩|⟨g,cap,cur,hv,_,_,h4,_⟩
 · injection h1 with e1 e2 e3;subst h2;exact⟨by omega,fun _=>e3⟩
 · injection hv with e1 e2 e3;subst e1 e3;exact⟨h4,fun h=>by cases h⟩
theorem Zeg {w:World}{v v':Value}{g:Nat}{row:Option Nat}(hv:v'.ownBlock=some g)(hat:v.ownBlock=some g∨g=w.heap.size)(hne:∀b,row=some b→v.ownBlock≠some b)(hlt:∀b,row=some b→b<w.heap.size):∀b,row=some b→v'.ownBlock≠some b:=fun b hb e=>by
 rw[hv]at e;injection e with e;subst e;rcases hat with h|h
 · exact hne g hb h
 · have:=hlt g hb;omega
end Go.Dw
namespace Go.Proofs.YtcemlhbfemenpaaGreatDoor
open Go.RowKit Go.Dw
theorem Zeh:(Tryz.prog.info? 61).map (fun i=>(i.zero,i.size,i.bytes))=some (some (.agg #[.int .i64 0,.string ⟨#[]⟩,.string ⟨#[]⟩]),3,40):=by kernel_rfl
theorem clone_Pn (A:Option Addr)(n c:Nat)(cs:List Value)(w:World)(h:Rd w A cs)(hl:cs.length=n*3)(h1:∀u∈cs,u.oneCell'=true)(hbig:n*40≤140737488355328):
  Calls Tryz.prog 46 #[.slice A n c] w fun e w'=>∃A' c',e= .returned (.slice A' n c')∧w'.ownsRow w.heap.size 61 3 (.slice A' n c') n cs∧Below w.heap.size w w':=by
 have q22:∀(w:World) (a:Option Addr) (n c n' c':Nat),(binOp .eql 37 (.slice a n c) (.slice none n' c')).run Tryz.prog w= .ok (.bool a.isNone) w:=fun w a n c n' c'=>Lib.run_eql_slice_nil w _ _ a n c n' c' Tryz.underlying37;cases A with
 |none=>
  have hn:n=0∧cs= []:=by
   rcases h with h|⟨b,off,h,_⟩
   · subst h;simp only[List.length_nil]at hl;exact⟨by omega,rfl⟩
   · cases h
  obtain⟨rfl,rfl⟩:=hn;go_enter Tryz.func46,Tryz.ntmps46
  go_wp2
  go_ret;exact⟨none,0,rfl,World.ownsRow_nil _ _ _ _,Zm _ _⟩
 |some ad=>
  obtain⟨i0,hi,hz0,hz1,hz2⟩:=info_parts Zeh;have u22:∀w,Sem.run Tryz.prog (underlying 37) w= .ok (TypeDesc.slice 61) w:=run_underlying Tryz.underlying37
  have HA:Hid (∀j u,cs[j]? =some u→(w.alloc (.cells #[] 61)).cell? (ad.add j)=some u):=by
   intro j u hu;rcases h with h|⟨b,off,h,hb,hc⟩
   · subst h;simp at hu
   · injection h with h;subst h;have hadd:(⟨b,off,none⟩:Addr).add j=⟨b,off+j,none⟩:=(by unfold Addr.add;split<;>simp_all);rw[hadd];exact Lib.cell?_alloc_some _ (hc j u hu)
  have HL:=Za hl;clear h hl;go_enter Tryz.func46,Tryz.ntmps46;go_wp2_with (at_builtin;refine wpList_append_own _ rfl _ _ 37 rfl w.heap.size 61 i0 _ 3 40 Tryz.underlying37 hi hz0 hz1 hz2 rfl (by decide) _ _ _ rfl (World.ownsRow_made w #[] 0 (Zh _) (Nat.zero_le _) rfl) ad n c cs rfl HL.o HA.o h1 (by unfold maxLen;omega) (by omega) (by simp) ?_);intro v' w1 hown hgrow hnil
  go_wp2
  go_ret;obtain⟨A',c',rfl⟩:=Z08 hown;refine⟨A',c',rfl, ?_, ?_⟩
  · exact hown
  · exact((Zm _ w).alloc (Zh _) _).grown hgrow (by simp) (by intro k hk;simp[Value.ownBlock]at hk;omega)
attribute [local go_sem ↓] Go.wp_at_zero Go.wp_at_succ
def Z1z (w:World)(c:CliM):Prop:=CliOk w c∧RdT 61 w c.e.a (c.e.xs.flatMap Pnt.cs)
theorem Z1z.kp {w w':World}{c:CliM}(h:Z1z w c)(hk:KpT 61 w w'):Z1z w' c:=by
 obtain⟨h1,h2⟩:=h;have h3:=h2.kp hk;exact⟨⟨h1.m,h1.ch,h1.fr,h1.tr,h1.at_,h1.ln,h1.el,h3.rd,h1.eo⟩,h3⟩
theorem Z1z.gq {w w':World}{c:CliM}(h:Z1z w c)(hk:Gq w w'):Z1z w' c:=h.kp (.of_below hk)
theorem Zei (l:List Pnt):∀u∈l.flatMap Pnt.cs,u.oneCell'=true:=fun u hu=>by
 obtain⟨p,_,hp⟩:=List.mem_flatMap.1 hu;simp[Pnt.cs]at hp;rcases hp with rfl|rfl|rfl<;>rfl
theorem Z7j:(Tryz.prog.info? 39).map (fun i=>(i.zero,i.size,i.bytes))=some (some (.agg #[.string ⟨#[]⟩,.int .i64 0,.int .i64 0,.int .i64 0,.int .i64 0,.int .i64 0,.slice none 0 0]),7,80):=by kernel_rfl
theorem own_any (c:CliM)(w:World)(h:CliOk w c)(hb:c.e.xs.length≤1000000000):
  Calls Tryz.prog 23 #[c.v] w fun e w'=>∃c':CliM,e= .returned c'.v∧c'.x=c.x∧Z1z w' c'∧Gq w w':=by
 obtain⟨xm,xc,xf,xt,xa,xl,⟨A,d,es⟩⟩:=c;have HE:Hid (Rd w A (es.flatMap Pnt.cs)):=h.er;have HOK:=Za h;simp only at hb;simp only[CliM.v,Slc.v];obtain⟨n,hn⟩:∃n,es.length=n:=⟨_,rfl⟩;have HCL:Hid (∀W,Gq w W→Calls Tryz.prog 46 #[.slice A n d] W fun e w'=>∃A' c',e= .returned (.slice A' n c')∧w'.ownsRow W.heap.size 61 3 (.slice A' n c') n (es.flatMap Pnt.cs)∧Gq W w'):=fun W hW=>by have:=clone_Pn A es.length d (es.flatMap Pnt.cs) W (HE.o.below hW) (Z0x Pnt.cs 3 (fun _=>rfl) es) (Zei es) (by omega);rw[hn]at this;exact this
 have HN:=Za hn;rw[hn];clear h hb hn;obtain⟨wa,hwa⟩:∃wa,wa=w.alloc (.cells #[.string xm,.int .i64 xc,.int .i64 xf,.int .i64 xt,.int .i64 xa,.int .i64 xl,.slice A n d] 39):=⟨_,rfl⟩;obtain⟨wb,hwb⟩:∃wb,wb=wa.alloc (.cells #[.string ⟨#[]⟩,.int .i64 0,.int .i64 0,.int .i64 0,.int .i64 0,.int .i64 0,.slice none 0 0] 39):=⟨_,rfl⟩;have hz:wa.heap.size=w.heap.size+1:=by rw[hwa];simp
 have HGA:Hid (Gq w wa):=by rw[hwa];exact(Gq.refl _).alloc _
 have HGB:Hid (Gq wa wb):=by rw[hwb];exact(Gq.refl _).alloc _
 have HKA:Hid (Blk wb w.heap.size 39 [.string xm,.int .i64 xc,.int .i64 xf,.int .i64 xt,.int .i64 xa,.int .i64 xl,.slice A n d]):=by refine Z0o (?_:Blk wa w.heap.size _ _) HGB.o;rw[hwa];exact Blk.new w _ _
 have HKB:Hid (Blk wb (w.heap.size+1) 39 [.string ⟨#[]⟩,.int .i64 0,.int .i64 0,.int .i64 0,.int .i64 0,.int .i64 0,.slice none 0 0]):=by rw[hwb,←hz];exact Blk.new wa _ _
 have k6:wb.cell? ⟨w.heap.size,6,none⟩=some (.slice A n d):=HKA.o.cell 6;have HC:=Za (HCL.o wb (HGA.o.trans HGB.o));rw[hwa]at hwb;have HWB:=Za hwb;clear hwa hwb HCL HE;go_enter Tryz.func23,Tryz.ntmps23;go_upto_region 1 with(fail);rw[←HWB.o];go_wp2_with fail;refine HC.o.mono ?_;rintro e w2 ⟨A',c',rfl,hown,hg⟩;have HG2:Hid (Gq wb w2):=hg;have HOWN:=Za hown;have hka:=Z0o HKA.o hg;have hkb:=Z0o HKB.o hg;have f6:=hka.frozen 6;have b6:w2.cell? ⟨w.heap.size,6,none⟩=some (.slice A n d):=hka.cell 6;have hk3:=hka.set_ 6 (.slice A' n c')
 have hb3:Blk (w2.setCell ⟨w.heap.size,6,none⟩ (.slice A' n c')) (w.heap.size+1) 39 [.string ⟨#[]⟩,.int .i64 0,.int .i64 0,.int .i64 0,.int .i64 0,.int .i64 0,.slice none 0 0]:=
  (Below.heap_setCell w2 ⟨w.heap.size,6,none⟩ (.slice A' n c') _ (by show w.heap.size+1≠w.heap.size;omega)).trans hkb
 obtain⟨w3,hw3⟩:∃w3,w3=w2.setCell ⟨w.heap.size,6,none⟩ (.slice A' n c'):=⟨_,rfl⟩;rw[←hw3]at hk3 hb3;have HW3:=Za hw3;have HK3:=Za hk3;have HB3:=Za hb3;clear hown hg hka hkb hk3 hb3 hw3;go_upto_region 2 with(fail);rw[←HW3.o];have d0:w3.cell? ⟨w.heap.size,0,none⟩=some (.string xm):=HK3.o.cell 0;have d1:w3.cell? ⟨w.heap.size,1,none⟩=some (.int .i64 xc):=HK3.o.cell 1;have d2:w3.cell? ⟨w.heap.size,2,none⟩=some (.int .i64 xf):=HK3.o.cell 2;have d3:w3.cell? ⟨w.heap.size,3,none⟩=some (.int .i64 xt):=HK3.o.cell 3;have d4:w3.cell? ⟨w.heap.size,4,none⟩=some (.int .i64 xa):=HK3.o.cell 4;have d5:w3.cell? ⟨w.heap.size,5,none⟩=some (.int .i64 xl):=HK3.o.cell 5;have d6:w3.cell? ⟨w.heap.size,6,none⟩=some (.slice A' n c'):=HK3.o.cell 6;have g0:=HB3.o.frozen 0;have g1:=HB3.o.frozen 1;have g2:=HB3.o.frozen 2;have g3:=HB3.o.frozen 3;have g4:=HB3.o.frozen 4;have g5:=HB3.o.frozen 5;have g6:=HB3.o.frozen 6;have e0:w3.cell? ⟨w.heap.size+1,0,none⟩=some (.string ⟨#[]⟩):=HB3.o.cell 0;have e1:w3.cell? ⟨w.heap.size+1,1,none⟩=some (.int .i64 0):=HB3.o.cell 1;have e2:w3.cell? ⟨w.heap.size+1,2,none⟩=some (.int .i64 0):=HB3.o.cell 2;have e3:w3.cell? ⟨w.heap.size+1,3,none⟩=some (.int .i64 0):=HB3.o.cell 3;have e4:w3.cell? ⟨w.heap.size+1,4,none⟩=some (.int .i64 0):=HB3.o.cell 4;have e5:w3.cell? ⟨w.heap.size+1,5,none⟩=some (.int .i64 0):=HB3.o.cell 5;have e6:w3.cell? ⟨w.heap.size+1,6,none⟩=some (.slice none 0 0):=HB3.o.cell 6;go_wp2_with fail;have HB4:Hid (Blk (Z4s w3 (w.heap.size+1) 0 [.string xm,.int .i64 xc,.int .i64 xf,.int .i64 xt,.int .i64 xa,.int .i64 xl,.slice A' n c']) (w.heap.size+1) 39 [.string xm,.int .i64 xc,.int .i64 xf,.int .i64 xt,.int .i64 xa,.int .i64 xl,.slice A' n c']):=Z1o _ HB3.o rfl;have HG4:Hid (Gq w (Z4s w3 (w.heap.size+1) 0 [.string xm,.int .i64 xc,.int .i64 xf,.int .i64 xt,.int .i64 xa,.int .i64 xl,.slice A' n c'])):=by refine Z0t (by omega) _ _ _ ?_;rw[HW3.o];exact((HGA.o.trans HGB.o).trans HG2.o).set (p:=⟨w.heap.size,6,none⟩) (Zh _) _
 have HT4:Hid (Z1z (Z4s w3 (w.heap.size+1) 0 [.string xm,.int .i64 xc,.int .i64 xf,.int .i64 xt,.int .i64 xa,.int .i64 xl,.slice A' n c']) ⟨xm,xc,xf,xt,xa,xl,⟨A',c',es⟩⟩):=by have k1:KpT 61 w2 w3:=(by rw[HW3.o];exact(KpT.refl _ _).setCell ⟨_,_,(Z0o HKA.o HG2.o)⟩ (by decide));have k2:=k1.trans (Z2a [.string xm,.int .i64 xc,.int .i64 xf,.int .i64 xt,.int .i64 xa,.int .i64 xl,.slice A' n c'] HB3.o (T:=61) (by decide) 0);have h1:=HOWN.o;rw[←HN.o]at h1;have h2:=(RdT.of_own h1).kp k2;have ho:=HOK.o;rw[←HN.o];rw[←HN.o]at h2;exact⟨⟨ho.m,ho.ch,ho.fr,ho.tr,ho.at_,ho.ln,ho.el,h2.rd,ho.eo⟩,h2⟩
 obtain⟨w4,hw4⟩:∃w4,Z4s w3 (w.heap.size+1) 0 [.string xm,.int .i64 xc,.int .i64 xf,.int .i64 xt,.int .i64 xa,.int .i64 xl,.slice A' n c']=w4:=⟨_,rfl⟩;rw[hw4]at HB4 HG4 HT4;simp only[Z4s,Nat.zero_add,Nat.reduceAdd]at hw4;rw[hw4];have k0:w4.cell? ⟨w.heap.size+1,0,none⟩=some (.string xm):=HB4.o.cell 0;have k1:w4.cell? ⟨w.heap.size+1,1,none⟩=some (.int .i64 xc):=HB4.o.cell 1;have k2:w4.cell? ⟨w.heap.size+1,2,none⟩=some (.int .i64 xf):=HB4.o.cell 2;have k3:w4.cell? ⟨w.heap.size+1,3,none⟩=some (.int .i64 xt):=HB4.o.cell 3;have k4:w4.cell? ⟨w.heap.size+1,4,none⟩=some (.int .i64 xa):=HB4.o.cell 4;have k5:w4.cell? ⟨w.heap.size+1,5,none⟩=some (.int .i64 xl):=HB4.o.cell 5;have k6:w4.cell? ⟨w.heap.size+1,6,none⟩=some (.slice A' n c'):=HB4.o.cell 6;have HN2:Hid (.slice A' n c'=Value.slice A' es.length c'):=by show _=_;rw[HN.o]
 exact bodyPost_ret (v:= .agg #[.string xm,.int .i64 xc,.int .i64 xf,.int .i64 xt,.int .i64 xa,.int .i64 xl,.slice A' n c']) (by simp[results,Tryz.results23,go_sem,k0,k1,k2,k3,k4,k5,k6]) rfl ⟨⟨xm,xc,xf,xt,xa,xl,⟨A',c',es⟩⟩,by rw[HN2.o],rfl,HT4.o,HG4.o⟩
end Go.Proofs.YtcemlhbfemenpaaGreatDoor
namespace Go.Proofs.YtcemlhbfemenpaaGreatDoor
open Go.RowKit Go.Dw Go.Sort Go.Stb
attribute [local go_sem ↓] Go.wp_at_zero Go.wp_at_succ
theorem stbCl:StbCl Tryz.prog 7 where
 mixed:=by kernel_rfl
 fs:=Tryz.func166
 fr:=Tryz.func138
 fy:=Tryz.func100
 ft:=Tryz.func60
 fo:=Tryz.func35
 es:=enters_of Tryz.func166 (by kernel_rfl) rfl
 er:=enters_of Tryz.func138 (by kernel_rfl) rfl
 ey:=enters_of Tryz.func100 (by kernel_rfl) rfl
 et:=enters_of Tryz.func60 (by kernel_rfl) rfl
 ei:=enters_of Tryz.func99 (by kernel_rfl) rfl
 t0:=Tryz.underlying0
 a0:=Tryz.isAgg0
 z0:=Tryz.sizeOf0
 v0:=Tryz.zeroValue0
 t3:=Tryz.underlying3
 a3:=Tryz.isAgg3
 z3:=Tryz.sizeOf3
 v3:=Tryz.zeroValue3
 t4:=Tryz.underlying4
 a4:=Tryz.isAgg4
 z4:=Tryz.sizeOf4
 v4:=Tryz.zeroValue4
 t22:=Tryz.underlying22
 a22:=Tryz.isAgg22
 z22:=Tryz.sizeOf22
 v22:=Tryz.zeroValue22
 t25:=Tryz.underlying64
 a25:=Tryz.isAgg64
 z25:=Tryz.sizeOf64
 v25:=Tryz.zeroValue64
 t39:=Tryz.underlying166
 aE:=Tryz.isAgg39
 zE:=Tryz.sizeOf39
instance:Inhabited CliM:=⟨⟨⟨#[]⟩,0,0,0,0,0,⟨none,0,[]⟩⟩⟩
def Zc5 (x:CliM×Nat):List Value:=x.1.cs
def cfT (x y:CliM×Nat):Int:=Z14 x.1.x y.1.x
theorem swoT:SWO (ltOf cfT):=(ord3_K.on (fun x:CliM×Nat=>x.1.x)).swo
theorem encT_one (x:CliM×Nat):∀v∈Zc5 x,v.oneCell'=true:=fun v hv=>by
 simp[Zc5,CliM.cs]at hv;rcases hv with rfl|rfl|rfl|rfl|rfl|rfl|rfl<;>rfl
theorem Zau (g off size:Nat)(w:World):CmpLays Tryz.prog 33 #[] Zc5 7 cfT g off size w:=
 fun _ _ _ _ x y=>Zc2 x.1 y.1 _
theorem flat_tag (l:List CliM):∀k,(l.zipIdx k).flatMap Zc5=l.flatMap CliM.cs:=by
 induction l with
 |nil=>intro k;rfl
 |cons x l ih=>intro k;rw[List.zipIdx_cons,List.flatMap_cons,List.flatMap_cons,ih];rfl
theorem flat_fst (l:List (CliM×Nat)):l.flatMap Zc5=(l.map (fun x=>x.1)).flatMap CliM.cs:=by
 rw[List.flatMap_map];rfl
theorem insNone (w:World):Calls Tryz.prog 99 #[.slice none 0 0,.int .i64 0,.int .i64 0,.func (.func 33) #[] #[]] w fun e w'=>e= .returned (.tuple #[])∧w'=w:=by
 go_enter Tryz.func99,Tryz.ntmps99;go_wp2_with fail
 go_loopw [8] (fun s wq=>s= .int .i64 1∧wq=w) (fun _ _=>0)
 case atStart=>exact⟨rfl,rfl⟩
 case round=>
  obtain⟨rfl,rfl⟩:=hrel
  go_wp2
  go_end0
  exact⟨rfl,rfl⟩
theorem stbNone (w:World):Calls Tryz.prog 60 #[.slice none 0 0,.int .i64 0,.func (.func 33) #[] #[]] w fun e w'=>e= .returned (.tuple #[])∧w'=w:=by
 have HI:=Za (insNone w);go_enter Tryz.func60,Tryz.ntmps60;go_wp2_with fail
 go_loopw [7,8] (fun s t wq=>s= .int .i64 0∧t= .int .i64 20∧wq=w) (fun _ _ _=>0)
 case atStart=>exact⟨rfl,rfl,rfl⟩
 case round=>
  obtain⟨rfl,rfl,rfl⟩:=hrel;go_wp2_with fail;refine HI.o.mono ?_;rintro e w' ⟨rfl,rfl⟩;go_wp2_with fail
  go_loopw [6,7,8,9] (fun s _ _ _ wq=>s= .int .i64 20∧wq=w') (fun _ _ _ _ _=>0)
  case atStart=>exact⟨rfl,rfl⟩
  case round=>
   obtain⟨rfl,rfl⟩:=hrel
   go_wp2
   go_end0
   exact⟨rfl,rfl⟩
theorem ssfNone (w:World):Calls Tryz.prog 35 #[.slice none 0 0,.func (.func 33) #[] #[]] w fun e w'=>e= .returned (.tuple #[])∧w'=w:=by
 have HI:=Za (stbNone w);go_enter Tryz.func35,Tryz.ntmps35;go_wp2_with fail;refine HI.o.mono ?_;rintro e w' ⟨rfl,rfl⟩;go_wp2_with fail
 go_end0
 exact⟨rfl,rfl⟩
def OrdR (w:World)(B base:Nat)(A:Option Addr)(n c:Nat)(ys:List CliM)(w':World):Prop:=
 w'.ownsRow base 39 7 (.slice A n c) n ((Z1b CliM.x ys).flatMap CliM.cs)∧(∀T,T≠39→KpT T w w')∧Below B w w'
theorem Zc6 (B base:Nat)(A:Option Addr)(n c:Nat)(ys:List CliM)(w:World)(hB:B≤base)(hown:w.ownsRow base 39 7 (.slice A n c) n (ys.flatMap CliM.cs))(hn:ys.length=n)(hm:n<1000000000):
  Calls Tryz.prog 35 #[.slice A n c,.func (.func 33) #[] #[]] w fun e w'=>e= .returned (.tuple #[])∧OrdR w B base A n c ys w':=by
 have eg:∀args w,(callFunc 33 args).run Tryz.prog w= .ok (.enter 33 args) w:=enters_of Tryz.func33 (by kernel_rfl) rfl;rcases hown.2 with⟨h1,h2⟩|⟨g,cap,cur,hv,hb,hg,_⟩
 · injection h1 with e1 _ e3;subst e1 e3 h2;have hy:ys= []:=Zk hn;subst hy;refine(ssfNone w).mono fun e w' ⟨h1,h2⟩=>⟨h1, ?_⟩;subst h2;exact⟨hown,fun _ _=>KpT.refl _ _,Zm _ _⟩
 · injection hv with e1 e2 e3;subst e1;have hgs:g<w.heap.size:=(Array.getElem?_eq_some_iff.1 hg).1;have hownT:w.ownsRow base 39 7 (.slice (some ⟨g,0,none⟩) n c) n (ys.zipIdx.flatMap Zc5):=(by rw[flat_tag];exact hown);have hl:ys.zipIdx.length=n:=(by rw[List.length_zipIdx];exact hn);have hH:=Z7g (enc:=Zc5) (fun _=>rfl) hownT hl;have hs:ys.zipIdx.toArray.size=n:=(by simpa using hl);have hgt:∀(i:Nat) (hi:i<n),ys.zipIdx.toArray[i]! =(ys[i]'(by omega),i):=fun i hi=>(by rw[getElem!_pos _ i (by rw[hs];exact hi)];simp);have hT:Z8a (fun x:CliM×Nat=>x.2) 0 n ys.zipIdx.toArray:=fun i j _ hij hj=>(by rw[hgt i (by omega),hgt j hj];exact hij);have R:RowK Zc5 7 w g 0 ys.zipIdx.toArray:=⟨fun _=>rfl,encT_one,hH,hgs⟩;have hI:∀(a b:Nat) (dk:Array (CliM×Nat)) (W:World),a≤b→b≤n→dk.size=n→SWK Zc5 7 w g 0 dk W→Calls Tryz.prog 99 #[.slice (some ⟨g,0,none⟩) n c,.int .i64 (a:Int),.int .i64 (b:Int),.func (.func 33) #[] #[]] W fun e w'=>e= .returned (.tuple #[])∧SWK Zc5 7 w g 0 (insertionSort (ltOf cfT) dk a b) w':=fun a b dk W h1 h2 h3 h4=>(by have:=AnyQ.insertionSortCmpFunc_w Tryz.insCl 7 Tryz.isAgg39 Tryz.sizeOf39 Zc5 cfT 33 #[] g 0 c a b ys.zipIdx.toArray dk w W eg (Zau g 0 _ w) R (by omega) h4 swoT h1 (by omega) (by omega);rw[h3]at this;exact this);refine(stbCl.sortStable cfT (fun x=>x.2) swoT Zc5 33 #[] g 0 c ys.zipIdx.toArray w n hs eg (Zau g 0 _ w) R hT hm hI).mono fun e w' ⟨h1,d',m,os,hw,hp,hsd⟩=>⟨h1, ?_⟩;obtain⟨p1,_,p3⟩:=hp;rw[hs]at p1;have e1:d'.extract 0 n=d':=(by rw[←p1];simp);have e2:ys.zipIdx.toArray.extract 0 n=ys.zipIdx.toArray:=(by have h0:∀Z:Array (CliM×Nat),Z.extract 0 Z.size=Z:=fun Z=>(by simp);have:=h0 ys.zipIdx.toArray;rw[hs]at this;exact this);rw[e1,e2]at p3;have hlist:d'.toList.map (fun x=>x.1)=Z1b CliM.x ys:=(by refine srt_tag CliM.x (by simpa using p3) ?_;rw[List.pairwise_iff_getElem];intro i j hi hj hij;have h1:=hsd i j (Nat.zero_le _) hij (by rw[←p1];simpa using hj);rw[getElem!_pos d' i (by simpa using hi),getElem!_pos d' j (by simpa using hj)]at h1;exact h1);have hsort:=own_sort (enc:=Zc5) (m:=m) (os:=os) (fun _=>rfl) hownT p1;rw[flat_fst,hlist]at hsort;rw[hw];exact⟨hsort,fun T hT=>kp_sort hg (fun e=>hT e.symm),Zbx (Nat.le_trans hB hb) hgs⟩
theorem Z9k (B base:Nat)(A:Option Addr)(n c:Nat)(ys:List CliM)(w:World)(hB:B≤base)(hown:w.ownsRow base 39 7 (.slice A n c) n (ys.flatMap CliM.cs))(hn:ys.length=n)(hm:n<1000000000):
  Calls Tryz.prog 15 #[.slice A n c] w fun e w'=>e= .returned (.slice A n c)∧OrdR w B base A n c ys w':=by
 have HS:=Za (Zc6 B base A n c ys w hB hown hn hm);clear hown hn hm hB;go_enter Tryz.func15,Tryz.ntmps15;go_wp2_with fail;refine HS.o.mono ?_;rintro e w' ⟨rfl,ho⟩;have HO:=Za ho;clear ho HS;go_wp2_with fail;go_ret;exact⟨rfl,HO.o⟩
end Go.Proofs.YtcemlhbfemenpaaGreatDoor
namespace Go.Proofs.YtcemlhbfemenpaaGreatDoor
open Go.RowKit Go.Dw
attribute [local go_sem ↓] Go.wp_at_zero Go.wp_at_succ
theorem builtE0:Tryz.prog.built 24 []=some #[.int .i64 0,.int .i64 0,.slice none 0 0]:=by kernel_rfl
theorem runE0 (w:World):(Instr.build 24 #[]).run Tryz.prog w= .ok (.agg #[.int .i64 0,.int .i64 0,.slice none 0 0]) w:=run_build w _ _ _ builtE0
theorem Z9l (x:EdtM)(w:World)(h:EdtOk w x):Calls Tryz.prog 16 #[x.v] w fun e w'=>e= .returned (.tuple #[ckV (Z0y Z0r 1000000 x.x) x.v,.int .i64 (Z0y Z0r 1000000 x.x)])∧Gq w w':=by
 obtain⟨f,hf⟩:∃f,Z0y Z0r 1000000 x.x=f:=⟨_,rfl⟩;have HCK:Hid (∀W,Gq w W→Calls Tryz.prog 12 #[x.v] W fun e w'=>e= .returned (.int .i64 f)∧Gq W w'):=fun W hW=>by rw[←hf];exact Z62 x W (h.below hW)
 rw[hf];clear hf h;obtain⟨xr,xt,⟨xA,xd,xs⟩⟩:=x;obtain⟨xn,hxn⟩:∃xn:Nat,xs.length=xn:=⟨_,rfl⟩;have HXV:Hid (EdtM.v ⟨xr,xt,⟨xA,xd,xs⟩⟩= .agg #[.int .i64 xr,.int .i64 xt,.slice xA xn xd]):=by show _=_;rw[←hxn];rfl
 rw[HXV.o]at HCK⊢;clear hxn;obtain⟨wa,hwa⟩:∃wa,wa=w.alloc (.cells #[.int .i64 xr,.int .i64 xt,.slice xA xn xd] 24):=⟨_,rfl⟩;obtain⟨wb,hwb⟩:∃wb,wb=wa.alloc (.cells #[.int .i64 0,.int .i64 0,.slice none 0 0] 24):=⟨_,rfl⟩;have hz:wa.heap.size=w.heap.size+1:=by rw[hwa];simp
 have hga:Gq w wa:=by rw[hwa];exact(Gq.refl _).alloc _
 have hgb:Gq wa wb:=by rw[hwb];exact(Gq.refl _).alloc _
 have HG:Hid (Gq w wb):=hga.trans hgb;have HKA:Hid (Blk wb w.heap.size 24 [.int .i64 xr,.int .i64 xt,.slice xA xn xd]):=by refine Z0o (?_:Blk wa w.heap.size _ _) hgb;rw[hwa];exact Blk.new w _ _
 have HKB:Hid (Blk wb (w.heap.size+1) 24 [.int .i64 0,.int .i64 0,.slice none 0 0]):=by rw[hwb,←hz];exact Blk.new wa _ _
 have c0:wb.cell? ⟨w.heap.size,0,none⟩=some (.int .i64 xr):=HKA.o.cell 0;have c1:wb.cell? ⟨w.heap.size,1,none⟩=some (.int .i64 xt):=HKA.o.cell 1;have c2:wb.cell? ⟨w.heap.size,2,none⟩=some (.slice xA xn xd):=HKA.o.cell 2;have HC:=Za (HCK.o wb HG.o);rw[hwa]at hwb;have HWB:=Za hwb;clear hwa hwb hga hgb HCK;go_enter Tryz.func16,Tryz.ntmps16;go_upto_region 1 with(fail);rw[←HWB.o];go_wp2_with fail;refine HC.o.mono ?_;rintro e w2 ⟨rfl,hg⟩;have HG2:Hid (Gq w w2):=HG.o.trans hg;have HKA2:=Za (Z0o HKA.o hg);have HKB2:=Za (Z0o HKB.o hg);have g0:=HKB2.o.frozen 0;have g1:=HKB2.o.frozen 1;have g2:=HKB2.o.frozen 2;have e0':w2.cell? ⟨w.heap.size+1,0,none⟩=some (.int .i64 0):=HKB2.o.cell 0;have e1:w2.cell? ⟨w.heap.size+1,1,none⟩=some (.int .i64 0):=HKB2.o.cell 1;have e2:w2.cell? ⟨w.heap.size+1,2,none⟩=some (.slice none 0 0):=HKB2.o.cell 2;have d0:w2.cell? ⟨w.heap.size,0,none⟩=some (.int .i64 xr):=HKA2.o.cell 0;have d1:w2.cell? ⟨w.heap.size,1,none⟩=some (.int .i64 xt):=HKA2.o.cell 1;have d2:w2.cell? ⟨w.heap.size,2,none⟩=some (.slice xA xn xd):=HKA2.o.cell 2;clear hg c0 c1 c2 HC
 have HEND:Hid (∀vs:List Value,vs.length=3→Blk (Z4s w2 (w.heap.size+1) 0 vs) (w.heap.size+1) 24 vs∧Gq w (Z4s w2 (w.heap.size+1) 0 vs)):=fun vs hv=>
  ⟨Z1o vs HKB2.o (by rw[hv];rfl),Z0t (by omega) vs w2 0 HG2.o⟩
 by_cases hf0:f=0
 case neg=>have HR:=Za (Z7i hf0 (.agg #[.int .i64 xr,.int .i64 xt,.slice xA xn xd]));have hfb:(f !=0)=true:=(by simpa using hf0);have hrun:=runE0 w2;obtain⟨hk,hg⟩:=HEND.o [.int .i64 0,.int .i64 0,.slice none 0 0] rfl;obtain⟨w4,hw4⟩:∃w4,Z4s w2 (w.heap.size+1) 0 [.int .i64 0,.int .i64 0,.slice none 0 0]=w4:=⟨_,rfl⟩;rw[hw4]at hk hg;simp only[Z4s,Nat.zero_add,Nat.reduceAdd]at hw4;have HG4:=Za hg;have HK4:=Za hk;have HW4:=Za hw4;clear hf0 hk hg hw4 HEND;go_wp2_with fail;rw[HW4.o];have k0:w4.cell? ⟨w.heap.size+1,0,none⟩=some (.int .i64 0):=HK4.o.cell 0;have k1:w4.cell? ⟨w.heap.size+1,1,none⟩=some (.int .i64 0):=HK4.o.cell 1;have k2:w4.cell? ⟨w.heap.size+1,2,none⟩=some (.slice none 0 0):=HK4.o.cell 2;exact bodyPost_ret (v:= .tuple #[.agg #[.int .i64 0,.int .i64 0,.slice none 0 0],.int .i64 f]) (by simp[results,Tryz.results16,go_sem,k0,k1,k2]) rfl ⟨by rw[HR.o],HG4.o⟩
 subst hf0;have hfb:((0:Int) !=0)=false:=rfl;obtain⟨hk,hg⟩:=HEND.o [.int .i64 xr,.int .i64 xt,.slice xA xn xd] rfl;obtain⟨w4,hw4⟩:∃w4,Z4s w2 (w.heap.size+1) 0 [.int .i64 xr,.int .i64 xt,.slice xA xn xd]=w4:=⟨_,rfl⟩;rw[hw4]at hk hg;simp only[Z4s,Nat.zero_add,Nat.reduceAdd]at hw4;have HG4:=Za hg;have HK4:=Za hk;have HW4:=Za hw4;clear hk hg hw4 HEND;go_wp2_with fail;rw[HW4.o];have k0:w4.cell? ⟨w.heap.size+1,0,none⟩=some (.int .i64 xr):=HK4.o.cell 0;have k1:w4.cell? ⟨w.heap.size+1,1,none⟩=some (.int .i64 xt):=HK4.o.cell 1;have k2:w4.cell? ⟨w.heap.size+1,2,none⟩=some (.slice xA xn xd):=HK4.o.cell 2;exact bodyPost_ret (v:= .tuple #[.agg #[.int .i64 xr,.int .i64 xt,.slice xA xn xd],.int .i64 0]) (by simp[results,Tryz.results16,go_sem,k0,k1,k2]) rfl ⟨by rw[Zas],HG4.o⟩
end Go.Proofs.YtcemlhbfemenpaaGreatDoor
namespace Go.Dwo
open Go Go.RowKit Go.Dw
section
variable {P:Program}
end
end Go.Dwo
