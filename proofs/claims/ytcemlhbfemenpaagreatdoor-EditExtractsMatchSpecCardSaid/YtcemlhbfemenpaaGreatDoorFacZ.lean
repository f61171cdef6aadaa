/- Several texts laid into one: Plain law over any program: a region that draws its order, shown by facts: each operation once, whatever came before it; a fact may end with an operation (an append, a map's update, a store); Readings that say the type of their block: what is written elsewhere leaves them; A region by facts: what an append, a struct that is built, a map's update ask; -/
import Derived.Test.YtcemlhbfemenpaaGreatDoorBase
namespace Go.Dwo
open Go Go.RowKit
section
variable {P:Program}{Q:Exit→Act→World→Prop}
structure Fact where
 on:List Nat
 off:List Nat
 says:(Nat→Value)→World→Prop
def msk (l:List Nat)(vs:Nat→Value)(j:Nat):Value:=if l.elem j then vs j else undef
def upd (vs:Nat→Value)(i:Nat)(v:Value)(j:Nat):Value:=if j=i then v else vs j
def lst (L:Nat→Bool)(i:Nat)(j:Nat):Bool:=if j=i then true else L j
def Holds (F:List Fact)(L:Nat→Bool)(vs:Nat→Value)(w:World):Prop:=∀f∈F,(∀j∈f.on,L j=true)→(∀j∈f.off,L j=false)→f.says (msk f.on vs) w
def putL:List (Option Tmp)→Nat→(Nat→Bool)→(Nat→Value)→Act→Act
 | [],_,_,_,a=>a
 |d::r,k,L,vs,a=>putL r (k+1) L vs (if L k=true then a.put d (vs k)else a)
def putA (ds:List (Option Tmp))(vs:Nat→Value)(a:Act):Act:=putL ds 0 (fun _=>true) vs a
theorem Z7d (x:Option Tmp)(v:Value):∀(ds:List (Option Tmp)) (k:Nat) (L:Nat→Bool) (vs:Nat→Value) (a:Act),(∀e∈ds,∀d,x=some d→e≠some d)→putL ds k L vs (a.put x v)=(putL ds k L vs a).put x v
 | [],_,_,_,_,_=>rfl
 |e::r,k,L,vs,a,h=>by
  unfold putL;cases L k
  · exact Z7d x v r (k+1) L vs a (fun e' he=>h e' (List.mem_cons_of_mem _ he))
  · simp only[if_true];rw[Act.put_comm a v (vs k) (h e List.mem_cons_self)];exact Z7d x v r (k+1) L vs _ (fun e' he=>h e' (List.mem_cons_of_mem _ he))
theorem Z6j:∀(ds:List (Option Tmp)) (k:Nat) (L L':Nat→Bool) (vs vs':Nat→Value) (a:Act),(∀j,k≤j→L j=L' j∧vs j=vs' j)→putL ds k L vs a=putL ds k L' vs' a
 | [],_,_,_,_,_,_,_=>rfl
 |e::r,k,L,L',vs,vs',a,h=>by unfold putL;rw[(h k (Nat.le_refl _)).1,(h k (Nat.le_refl _)).2];exact Z6j r (k+1) L L' vs vs' _ (fun j hj=>h j (by omega))
theorem Zah (i:Nat)(x:Option Tmp)(v:Value)(L:Nat→Bool)(vs:Nat→Value)(hL:L i=false):∀(ds:List (Option Tmp)) (k:Nat) (a:Act),k≤i→ds[i - k]? =some x→
  (∀j e,ds[j]? =some e→k+j≠i→∀d,x=some d→e≠some d)→putL ds k (lst L i) (upd vs i v) a=(putL ds k L vs a).put x v
 | [],k,a,_,h,_=>by simp at h
 |e::r,k,a,hk,h,hap=>by
  by_cases hki:k=i
  · subst hki;rw[Nat.sub_self]at h;simp only[List.getElem?_cons_zero,Option.some.injEq]at h;subst h;unfold putL;rw[hL];have h1:lst L k k=true:=(by simp[lst]);have h2:upd vs k v k=v:=(by simp[upd]);rw[h1,h2];simp only[if_true,Bool.false_eq_true,if_false];rw[Z6j r (k+1) (lst L k) L (upd vs k v) vs _ (fun j hj=>⟨by simp[lst];intro h;omega,by simp[upd];intro h;omega⟩)];refine Z7d e v r (k+1) L vs a (fun e' he=> ?_);obtain⟨j,hj⟩:=List.mem_iff_getElem?.1 he;exact hap (j+1) e' (by simpa using hj) (by omega)
  · have h1:lst L i k=L k:=(by simp[lst,hki]);have h2:upd vs i v k=vs k:=(by simp[upd,hki]);unfold putL;rw[h1,h2];have hs:i - k=(i - (k+1))+1:=(by omega);rw[hs,List.getElem?_cons_succ]at h;exact Zah i x v L vs hL r (k+1) _ (by omega) h (fun j e' hj hne=>hap (j+1) e' (by simpa using hj) (by omega))
def Agr (ts:List Tmp)(a a':Act):Prop:=a.tmps.size=a'.tmps.size∧∀t∈ts,a.tmps[t]? =a'.tmps[t]?
theorem Agr.refl (ts:List Tmp)(a:Act):Agr ts a a:=⟨rfl,fun _ _=>rfl⟩
theorem Z5b (a:Act)(d:Option Tmp)(v:Value):(a.put d v).tmps.size=a.tmps.size:=by
 cases d<;>simp[Act.put]
theorem Agr.both {ts:List Tmp}{a a':Act}(h:Agr ts a a')(d:Option Tmp)(v:Value):Agr ts (a.put d v) (a'.put d v):=by
 refine⟨by rw[Z5b,Z5b];exact h.1,fun t ht=> ?_⟩;cases d with
 |none=>exact h.2 t ht
 |some d=>
  simp only[Act.put,Array.getElem?_setIfInBounds,h.1,h.2 t ht]
theorem Agr.one {ts:List Tmp}{a a':Act}(h:Agr ts a a')(d:Option Tmp)(v:Value)(hd:∀e,d=some e→e∉ts):Agr ts a (a'.put d v):=by
 refine⟨by rw[Z5b];exact h.1,fun t ht=> ?_⟩;cases d with
 |none=>exact h.2 t ht
 |some d=>
  have hne:d≠t:=fun e=>hd d rfl (e▸ht);simp only[Act.put,Array.getElem?_setIfInBounds_ne hne];exact h.2 t ht
theorem Zai (ts:List Tmp)(L:Nat→Bool)(vs:Nat→Value):∀(ds:List (Option Tmp)) (k:Nat) (a a':Act),Agr ts a a'→(∀j e,ds[j]? =some e→L (k+j)=false→∀d,e=some d→d∉ts)→
  Agr ts (putL ds k L vs a) (putL ds k (fun _=>true) vs a')
 | [],_,_,_,h,_=>h
 |e::r,k,a,a',h,hd=>by
  unfold putL;refine Zai ts L vs r (k+1) _ _ ?_ (fun j e' hj hL=>hd (j+1) e' (by simpa using hj) (by rw[←hL];congr 1;omega));cases hL:L k
  · simp only[Bool.false_eq_true,if_false,if_true];exact h.one e (vs k) (hd 0 e rfl (by simpa using hL))
  · simp only[if_true];exact h.both e (vs k)
theorem agr_exec {ops:Array Oper}{o:Oper}(hs:∀cs b,o.op≠ .select cs b){a a':Act}(h:Agr (o.looksAt ops) a a'):execOp a.eval o=execOp a'.eval o:=
 execOp_congr o hs fun x hx=>by
  cases x with
  |tmp t=>
   have h1:=h.2 t (List.mem_append_left _ (List.mem_filterMap.2 ⟨.tmp t,by simpa using hx,rfl⟩));simp only[Act.eval,Array.getD_eq_getD_getElem?,h1]
  |_=>rfl
theorem Zbr {ops:Array Oper}{o:Oper}{a a':Act}(h:Agr (o.looksAt ops) a a'):Region.wanted o (yielded ops a.tmps)=Region.wanted o (yielded ops a'.tmps):=by
 unfold Region.wanted;cases hg:o.guard with
 |none=>rfl
 |some gw=>
  obtain⟨g,want⟩:=gw
  have hy:yielded ops a.tmps g=yielded ops a'.tmps g:=by
   unfold yielded;cases ht:(ops[g]?).bind (·.dst)with
   |none=>rfl
   |some t=>
    have h1:=h.2 t (List.mem_append_right _ (by simp[hg,ht]));simp only[Option.bind_some,h1]
  simp only[hy]
def Oper.tame (P:Program)(o:Oper)(a:Act)(w:World)(K:Value→World→Prop):Prop:=
 match(execOp a.eval o).run P w with
 | .ok (.value v) w'=>K v w'
 | .ok .skip w'=>K undef w'
 | .ok (.enter f args) w'=>Calls P f args w' fun e w''=>∃v,e= .returned v∧K v w''
 |_=>False
theorem Oper.tame_wp {o:Oper}{a a':Act}{w:World}{K:Value→World→Prop}{next:Act→World→Prop}(he:execOp a'.eval o=execOp a.eval o)(h:Oper.tame P o a w K)(hn:∀v w',K v w'→next (a'.put o.dst v) w'):o.wp P a' w next Q:=by
 unfold Go.Oper.wp;rw[he];unfold Oper.tame at h;generalize (execOp a.eval o).run P w=r at*;cases r with
 |ok n w'=>
  cases n<;>simp only at h
  case value v=>exact hn _ _ h
  case skip=>exact hn _ _ h
  case enter f args=>simp only[Go.Oper.upon];exact Calls.mono h fun e w'' ⟨v,e1,hv⟩=>by subst e1;exact hn _ _ hv
 |halt x w'=>simp only at h
def Z86 (md:Region.Mode)(ops:Array Oper)(ups:List (List Nat)):Bool:=
 Region.noSelect ops && (List.range ops.size).all fun i=>match ops[i]? with
  |none=>true
  |some oi=>(oi.after.all fun e=> !Region.binds md e||decide (e.on<i)) && (List.range ops.size).all fun j=>match ops[j]? with
   |none=>true
   |some oj=>match oj.dst with
    |none=>true
    |some d=>(i==j||oi.dst !=some d) && (!(oi.looksAt ops).contains d||(if(ups.getD i []).isEmpty then(ups.getD j []).contains i else oi.after.any fun e=>Region.binds md e && e.on==j))
def upsB (md:Region.Mode)(ops:Array Oper)(ups:List (List Nat)):Bool:=
 (List.range ops.size).all fun i=>match ops[i]? with
  |none=>true
  |some oi=>(ups.getD i []).all fun k=>oi.after.any fun e=>Region.binds md e && (e.on==k||(ups.getD e.on []).contains k)
variable {ops:Array Oper}{md:Region.Mode}
theorem Z3k {ups:List (List Nat)}(h:Z86 md ops ups=true){i:Nat}{oi:Oper}(hi:ops[i]? =some oi):
  (∀e∈oi.after,Region.binds md e=true→e.on<i)∧∀j oj d,ops[j]? =some oj→oj.dst=some d→(i≠j→oi.dst≠some d)∧(d∈oi.looksAt ops→if(ups.getD i []).isEmpty=true then i∈ups.getD j []else∃e∈oi.after,Region.binds md e=true∧e.on=j):=by
 unfold Z86 at h;rw[Bool.and_eq_true,List.all_eq_true]at h;have h1:=h.2 i (by rw[List.mem_range];exact(Array.getElem?_eq_some_iff.1 hi).1);simp only[hi,Bool.and_eq_true,Array.all_eq_true_iff_forall_mem,List.all_eq_true]at h1;refine⟨fun e he hb=> ?_,fun j oj d hj hd=> ?_⟩
 · have:=h1.1 e he;simpa [hb]using this
 ·
  have h2:=h1.2 j (by rw[List.mem_range];exact(Array.getElem?_eq_some_iff.1 hj).1);simp only[hj,hd,Bool.and_eq_true,Bool.or_eq_true]at h2;refine⟨fun hne=> ?_,fun hm=> ?_⟩
  ·
   rcases h2.1 with h3|h3
   · exact absurd (by simpa using h3) hne
   · simpa using h3
  ·
   rcases h2.2 with h3|h3
   · have:(oi.looksAt ops).contains d=true:=(by simpa using hm);rw[this]at h3;cases h3
   ·
    split at h3
    ·
     rename_i he
     rw[if_pos he];simpa using h3
    ·
     rename_i he
     rw[if_neg he];obtain⟨e,he,hb⟩:=Array.any_eq_true'.1 h3;simp only[Bool.and_eq_true,beq_iff_eq]at hb;exact⟨e,he,hb.1,hb.2⟩
theorem Zdt {ups:List (List Nat)}(h:upsB md ops ups=true){i:Nat}{oi:Oper}(hi:ops[i]? =some oi){k:Nat}(hk:k∈ups.getD i []):
  ∃e∈oi.after,Region.binds md e=true∧(e.on=k∨k∈ups.getD e.on []):=by
 unfold upsB at h;rw[List.all_eq_true]at h;have h1:=h i (by rw[List.mem_range];exact(Array.getElem?_eq_some_iff.1 hi).1);simp only[hi,List.all_eq_true]at h1;obtain⟨e,he,hb⟩:=Array.any_eq_true'.1 (h1 k hk);simp only[Bool.and_eq_true,Bool.or_eq_true,beq_iff_eq]at hb;exact⟨e,he,hb.1,hb.2.imp id (by simp)⟩
def actOf (a b:Act):List Nat→Act
 | []=>a
 |_::_=>b
theorem Z87 (ts:List Tmp)(L:Nat→Bool)(vs:Nat→Value):∀(ds:List (Option Tmp)) (k:Nat) (a a':Act),Agr ts a a'→(∀j e,ds[j]? =some e→L (k+j)=true→∀d,e=some d→d∉ts)→Agr ts (putL ds k L vs a) a'
 | [],_,_,_,h,_=>h
 |e::r,k,a,a',h,hd=>by
  unfold putL;refine Z87 ts L vs r (k+1) _ _ ?_ (fun j e' hj hL=>hd (j+1) e' (by simpa using hj) (by rw[←hL];congr 1;omega));cases hL:L k
  · simp only[Bool.false_eq_true,if_false];exact h
  ·
   simp only[if_true];have hne:∀d,e=some d→d∉ts:=hd 0 e rfl (by simpa using hL);refine⟨by rw[Z5b];exact h.1,fun t ht=> ?_⟩;cases e with
   |none=>exact h.2 t ht
   |some d=>
    have hdt:d≠t:=fun e=>hne d rfl (e▸ht);simp only[Act.put,Array.getElem?_setIfInBounds_ne hdt];exact h.2 t ht
def StepF (P:Program)(ops:Array Oper)(ds:List (Option Tmp))(F:List Fact)(ups:List (List Nat))(a:Act)(i:Nat)(o:Oper):Prop:=
 ∀(L:Nat→Bool) (vs:Nat→Value) (w:World),Holds F L vs w→L i=false→(∀k∈ups.getD i [],L k=true)→(∀j,L j=true→∀k∈ups.getD j [],L k=true)→
  if Region.wanted o (yielded ops (actOf a (putA ds vs a) (ups.getD i [])).tmps)then Oper.tame P o (actOf a (putA ds vs a) (ups.getD i [])) w fun v w'=>Holds F (lst L i) (upd vs i v) w' else Holds F (lst L i) (upd vs i undef) w
def Z50 (P:Program)(ops:Array Oper)(ds:List (Option Tmp))(F:List Fact)(ups:List (List Nat))(a:Act):List Oper→Nat→Prop
 | [],_=>True
 |o::r,k=>StepF P ops ds F ups a k o∧Z50 P ops ds F ups a r (k+1)
theorem Z50.at_ {ds:List (Option Tmp)}{F:List Fact}{ups:List (List Nat)}{a:Act}:∀ {l:List Oper} {k i:Nat} {o:Oper},Z50 P ops ds F ups a l k→l[i]? =some o→StepF P ops ds F ups a (k+i) o
 | [],_,_,_,_,h=>by simp at h
 |x::r,k,0,o,hs,h=>by simp only[List.getElem?_cons_zero,Option.some.injEq]at h;subst h;exact hs.1
 |x::r,k,i+1,o,hs,h=>by have:=Z50.at_ hs.2 (i:=i) (by simpa using h);rw[show k+(i+1)=k+1+i by omega];exact this
def left (n:Nat)(L:Nat→Bool):Nat:=(List.range n).countP fun j=> !L j
theorem left_lst {n i:Nat}{L:Nat→Bool}(hi:i<n)(hL:L i=false):left n (lst L i)+1=left n L:=by
 induction n with
 |zero=>omega
 |succ n ih=>
  unfold left at*;rw[List.range_succ,List.countP_append,List.countP_append];simp only[List.countP_singleton];by_cases h:i=n
  · subst h;have e:(List.range i).countP (fun j=> !lst L i j)=(List.range i).countP fun j=> !L j:=(by refine List.countP_congr fun j hj=> ?_;have:j≠i:=(by have:=List.mem_range.1 hj;omega);simp[lst,this]);rw[e];have h2:lst L i i=true:=(by simp[lst]);simp[h2,hL]
  · have:=ih (by omega);have h2:lst L i n=L n:=(by simp[lst,Ne.symm h]);rw[h2];omega
theorem Zdu {n:Nat}{L:Nat→Bool}(h:left n L=0):∀j,j<n→L j=true:=fun j hj=>by
 unfold left at h;rw[List.countP_eq_zero]at h;simpa using h j (List.mem_range.2 hj)
theorem Zbs {ups:List (List Nat)}(hB:Z86 md ops ups=true){listed:Array Bool}(hz:listed.size=ops.size)(hr:Region.ready md ops listed= []):∀j,j<ops.size→listed.getD j false=true:=by
 intro j
 induction j using Nat.strongRecOn with
 |ind j ih=>
  intro hj;cases hl:listed.getD j false with
  |true=>rfl
  |false=>
   obtain⟨o,ho⟩:∃o,ops[j]? =some o:=⟨ops[j],by simp[hj]⟩
   have:j∈Region.ready md ops listed:=by
    rw[mem_ready];refine⟨?_,o,ho,fun e he hb=> ?_⟩
    · have hj2:j<listed.size:=(by omega);simp[hj2]at hl⊢;exact hl
    · have:=((Z3k hB ho).1 e he hb);exact ih e.on this (by omega)
   rw[hr]at this;cases this
theorem Z9d (ups:List (List Nat))(hB:Z86 md ops ups=true)(hU:upsB md ops ups=true)(F:List Fact)(hO:∀f∈F,∀j∈f.on,j<ops.size)(a:Act)(ds:List (Option Tmp))(hds:ops.toList.map (·.dst)=ds)
  (hsteps:Z50 P ops ds F ups a ops.toList 0) (hend:∀vs w,Holds F (fun _=>true) vs w→Q .normal (putA ds vs a) w):
  ∀(fuel:Nat) (listed:Array Bool) (vs:Nat→Value) (w:World),listed.size=ops.size→left ops.size (fun j=>listed.getD j false)≤fuel→
   Holds F (fun j=>listed.getD j false) vs w→(∀j,listed.getD j false=true→∀k∈ups.getD j [],listed.getD k false=true)→
   wpAny P md ops Q fuel listed (putL ds 0 (fun j=>listed.getD j false) vs a) w:=by
 have hsel:=Region.noSelect_spec (ops:=ops) (by unfold Z86 at hB;rw[Bool.and_eq_true]at hB;exact hB.1);have hdj:∀(j:Nat) (o:Go.Oper),ops[j]? =some o→ds[j]? =some o.dst:=fun j o ho=>by rw[←hds,List.getElem?_map,Array.getElem?_toList,ho];rfl
 have hjd:∀(j:Nat) (e:Option Tmp),ds[j]? =some e→∃o:Go.Oper,ops[j]? =some o∧o.dst=e:=fun j e he=>by
  rw[←hds,List.getElem?_map,Array.getElem?_toList]at he;cases ho:ops[j]? with
  |none=>rw[ho]at he;simp at he
  |some o=>rw[ho]at he;simp at he;exact⟨o,rfl,he⟩
 have hfin:∀(listed:Array Bool) (vs:Nat→Value) (w:World),listed.size=ops.size→(∀j,j<ops.size→listed.getD j false=true)→Holds F (fun j=>listed.getD j false) vs w→
   Q .normal (putL ds 0 (fun j=>listed.getD j false) vs a) w:=fun listed vs w hz hall hH=>by
  have hdsz:ds.length=ops.size:=by rw[←hds];simp
  have e:putL ds 0 (fun j=>listed.getD j false) vs a=putA ds vs a:=by
   unfold putA
   have key:∀(ds':List (Option Tmp)) (k:Nat) (a:Act),k+ds'.length≤ops.size→putL ds' k (fun j=>listed.getD j false) vs a=putL ds' k (fun _=>true) vs a:=by
    intro ds'
    induction ds' with
    |nil=>intros;rfl
    |cons x r ih=>
     intro k a hk;simp only[List.length_cons]at hk;unfold putL;simp only[hall k (by omega)];exact ih (k+1) _ (by omega)
   exact key ds 0 a (by omega)
  rw[e];exact hend vs w (fun f hf _ hoff=>hH f hf (fun j hj=>hall j (hO f hf j hj)) fun j hj=>by have:=hoff j hj;cases this)
 intro fuel
 induction fuel with
 |zero=>
  intro listed vs w hz hl hH hc;have hall:=Zdu (Nat.le_zero.1 hl);refine⟨?_,hfin listed vs w hz hall hH⟩;rw[List.eq_nil_iff_forall_not_mem];intro j hj;obtain⟨h0,o,ho,_⟩:=mem_ready.1 hj;have hjl:j<ops.size:=(Array.getElem?_eq_some_iff.1 ho).1;have h1:=hall j hjl;have hj2:j<listed.size:=by omega
  simp[hj2]at h0 h1;rw[h0]at h1;cases h1
 |succ fuel ih=>
  intro listed vs w hz hl hH hc;refine⟨fun hr=>hfin listed vs w hz (Zbs hB hz hr) hH,fun i hi=> ?_⟩;obtain⟨h0,o,ho,hall⟩:=mem_ready.1 hi;have hil:i<ops.size:=(Array.getElem?_eq_some_iff.1 ho).1;have hi2:i<listed.size:=by omega
  have hLi:listed.getD i false=false:=by simp[hi2]at h0⊢;exact h0
  have hLs:(fun j=>(listed.setIfInBounds i true).getD j false)=lst (fun j=>listed.getD j false) i:=by
   funext j;unfold lst;by_cases hji:j=i
   · subst hji;simp[hi2]
   · rw[if_neg hji,getD_set_ne false (Ne.symm hji)]
  have hup:∀k∈ups.getD i [],listed.getD k false=true:=fun k hk=>by
   obtain⟨e,he,hb,h1⟩:=Zdt hU ho hk;rcases h1 with rfl|h1
   · exact hall e he hb
   · exact hc e.on (hall e he hb) k h1
  have hst:=Z50.at_ hsteps (i:=i) (o:=o) (by rw[Array.getElem?_toList];exact ho);rw[Nat.zero_add]at hst;have h1:=hst (fun j=>listed.getD j false) vs w hH hLi hup hc
  have hagr:Agr (o.looksAt ops) (putL ds 0 (fun j=>listed.getD j false) vs a) (actOf a (putA ds vs a) (ups.getD i [])):=by
   cases hui:ups.getD i []with
   |nil=>
    refine Z87 _ _ vs ds 0 a a (Agr.refl _ _) (fun j e hj hL d hd hm=> ?_);obtain⟨oj,hoj,hoe⟩:=hjd j e hj;have h2:=((Z3k hB ho).2 j oj d hoj (by rw[hoe];exact hd)).2 hm;rw[hui]at h2;rw[Nat.zero_add]at hL;have:=hc j hL i (by simpa using h2);rw[hLi]at this;cases this
   |cons x r=>
    refine Zai _ _ vs ds 0 a a (Agr.refl _ _) (fun j e hj hL d hd hm=> ?_);obtain⟨oj,hoj,hoe⟩:=hjd j e hj;have h2:=((Z3k hB ho).2 j oj d hoj (by rw[hoe];exact hd)).2 hm;rw[hui]at h2;obtain⟨e2,he2,hb2,hon⟩:∃e∈o.after,Region.binds md e=true∧e.on=j:=(by simpa using h2);have:=hall e2 he2 hb2;rw[hon]at this;rw[Nat.zero_add]at hL;rw[this]at hL;cases hL
  have hput:∀v,(putL ds 0 (fun j=>listed.getD j false) vs a).put o.dst v=putL ds 0 (fun j=>(listed.setIfInBounds i true).getD j false) (upd vs i v) a:=fun v=>by rw[hLs];refine(Zah i o.dst v _ vs hLi ds 0 a (Nat.zero_le _) (by rw[Nat.sub_zero];exact hdj i o ho) (fun j e hj hne d hd=> ?_)).symm;obtain⟨oj,hoj,hoe⟩:=hjd j e hj;intro he;exact(((Z3k hB ho).2 j oj d hoj (by rw[hoe];exact he)).1 (by omega)) hd
  have hnext:∀v w',Holds F (lst (fun j=>listed.getD j false) i) (upd vs i v) w'→wpAny P md ops Q fuel (listed.setIfInBounds i true) ((putL ds 0 (fun j=>listed.getD j false) vs a).put o.dst v) w':=fun v w' hH'=>by
   rw[hput];refine ih _ _ _ (by simp[hz]) ?_ (by rw[hLs];exact hH') (fun j hj k hk=> ?_)
   · have:=left_lst (L:=fun j=>listed.getD j false) hil hLi;rw[hLs];omega
   ·
    have hj':lst (fun j=>listed.getD j false) i j=true:=by rw[←hLs];exact hj
    have:lst (fun j=>listed.getD j false) i k=true:=by
     unfold lst at hj'⊢
     split
     · rfl
     ·
      by_cases hji:j=i
      · subst hji;exact hup k hk
      · rw[if_neg hji]at hj';exact hc j hj' k hk
    rw[←hLs]at this;exact this
  unfold wpOp;simp only[ho];rw[Zbr hagr]
  split
  ·
   rename_i hw
   rw[if_pos hw]at h1;exact .inl (Oper.tame_wp (agr_exec (fun cs b=>hsel i o cs b ho) hagr) h1 hnext)
  ·
   rename_i hw
   rw[if_neg hw]at h1;exact hnext _ _ h1
theorem Z5v {id:Nat}{a:Act}{w:World}{l:List Oper}(hm:P.follows .mixedOrders=true)(ups:List (List Nat))(hB:Z86 .any l.toArray ups=true)(hU:upsB .any l.toArray ups=true)
  (ds:List (Option Tmp)) (hds:l.map (·.dst)=ds) (F:List Fact) (hO:(F.all fun f=>f.on.all fun j=>decide (j<l.length))=true) (hstart:Holds F (fun _=>false) (fun _=>undef) w.drew)
  (hsteps:Z50 P l.toArray ds F ups a l 0) (hend:∀vs w',Holds F (fun _=>true) vs w'→Q .normal (putA ds vs a) w'):(Code.region id l.toArray true).wp P Q a w:=by
 refine wp_region_any hm ?_;have hO':∀f∈F,∀j∈f.on,j<l.toArray.size:=fun f hf j hj=>by rw[List.all_eq_true]at hO;have:=hO f hf;rw[List.all_eq_true]at this;simpa using this j hj
 have hrep:∀j,(Array.replicate l.toArray.size false).getD j false=false:=fun j=>by
  rw[Array.getD_eq_getD_getElem?,Array.getElem?_replicate]
  split<;>rfl
 have hf:(fun j=>(Array.replicate l.toArray.size false).getD j false)=fun _=>false:=funext hrep;have:=Z9d (P:=P) (Q:=Q) ups hB hU F hO' a ds (by simpa using hds) (by simpa using hsteps) hend l.toArray.size (Array.replicate l.toArray.size false) (fun _=>undef) w.drew (by simp) ?_ (by rw[hf];exact hstart) (fun j hj=>by rw[hrep]at hj;cases hj)
 ·
  rw[hf]at this
  have e:putL ds 0 (fun _=>false) (fun _=>undef) a=a:=by
   have key:∀(ds':List (Option Tmp)) (k:Nat),putL ds' k (fun _=>false) (fun _=>undef) a=a:=by
    intro ds'
    induction ds' with
    |nil=>intros;rfl
    |cons x r ih=>intro k;unfold putL;simp only[Bool.false_eq_true,if_false];exact ih (k+1)
   exact key ds 0
  rw[e]at this;exact this
 · unfold left;refine Nat.le_trans List.countP_le_length ?_;simp
/-! what a step shows -/
theorem Holds.at_ {F:List Fact}{L:Nat→Bool}{vs:Nat→Value}{w:World}(h:Holds F L vs w)(k:Nat){f:Fact}(hk:F[k]? =some f)(hon:∀j∈f.on,L j=true)(hoff:∀j∈f.off,L j=false):f.says (msk f.on vs) w:=
 h f (List.mem_of_getElem? hk) hon hoff
theorem msk_upd {l:List Nat}{i:Nat}(h:i∉l)(vs:Nat→Value)(v:Value):msk l (upd vs i v)=msk l vs:=by
 funext j;unfold msk upd;by_cases hj:j=i
 · subst hj;have:l.elem j=false:=(by simpa using h);rw[this];simp
 · rw[if_neg hj]
theorem Holds.step {F:List Fact}{L:Nat→Bool}{vs:Nat→Value}{w w':World}{i:Nat}{v:Value}(h:Holds F L vs w)
  (hs:∀f∈F,i∉f.on→i∉f.off→(∀j∈f.on,L j=true)→f.says (msk f.on vs) w→f.says (msk f.on vs) w')
  (hn:∀f∈F,i∈f.on→i∉f.off→(∀j∈f.on,j≠i→L j=true)→f.says (msk f.on (upd vs i v)) w'):Holds F (lst L i) (upd vs i v) w':=fun f hf hon hoff=>by
 have ho:i∉f.off:=fun e=>by have:=hoff i e;simp[lst]at this
 by_cases hi:i∈f.on
 · refine hn f hf hi ho (fun j hj hne=> ?_);have:=hon j hj;simpa [lst,hne]using this
 · rw[msk_upd hi];have hon':∀j∈f.on,L j=true:=fun j hj=>(by have hne:j≠i:=fun e=>hi (e▸hj);have:=hon j hj;simpa [lst,hne]using this);have hoff':∀j∈f.off,L j=false:=fun j hj=>(by have hne:j≠i:=fun e=>ho (e▸hj);have:=hoff j hj;simpa [lst,hne]using this);exact hs f hf hi ho hon' (h f hf hon' hoff')
def StepK (P:Program)(ops:Array Oper)(F:List Fact)(ups:List (List Nat))(a:Act)(A:(Nat→Value)→Act)(i:Nat)(o:Oper):Prop:=
 ∀(L:Nat→Bool) (vs:Nat→Value) (w:World) (K:Value→World→Prop),Holds F L vs w→(∀k∈ups.getD i [],L k=true)→(∀j,j=i∨i∈ups.getD j []→L j=false)→
  (∀v w',(∀f∈F,i∉f.on→i∉f.off→(∀j∈f.on,L j=true)→f.says (msk f.on vs) w→f.says (msk f.on vs) w')→
   (∀f∈F,i∈f.on→(∀j∈f.on,j≠i→L j=true∧i∉ups.getD j [])→f.says (msk f.on (upd vs i v)) w')→K v w')→
  if Region.wanted o (yielded ops (actOf a (A vs) (ups.getD i [])).tmps)then Oper.tame P o (actOf a (A vs) (ups.getD i [])) w K else K undef w
def Z5w (P:Program)(ops:Array Oper)(F:List Fact)(ups:List (List Nat))(a:Act)(A:(Nat→Value)→Act):List Oper→Nat→Prop
 | [],_=>True
 |o::r,k=>StepK P ops F ups a A k o∧Z5w P ops F ups a A r (k+1)
theorem Z5w.stepsF {ds:List (Option Tmp)}{F:List Fact}{ups:List (List Nat)}{a:Act}{A:(Nat→Value)→Act}(hA:∀vs,putA ds vs a=A vs):∀ {l:List Oper} {k:Nat},Z5w P ops F ups a A l k→Z50 P ops ds F ups a l k
 | [],_,_=>trivial
 |o::r,k,h=>⟨fun L vs w hH hL hu hc=>by
   rw[hA]
   have hf:∀v w',(∀f∈F,k∉f.on→k∉f.off→(∀j∈f.on,L j=true)→f.says (msk f.on vs) w→f.says (msk f.on vs) w')→(∀f∈F,k∈f.on→(∀j∈f.on,j≠k→L j=true∧k∉ups.getD j [])→f.says (msk f.on (upd vs k v)) w')→Holds F (lst L k) (upd vs k v) w':=fun v w' h1 h2=>
    hH.step h1 fun f hf hk _ hj=>h2 f hf hk fun j hjo hne=>⟨hj j hjo hne,fun hm=>by have:=hc j (hj j hjo hne) k hm;rw[hL]at this;cases this⟩
   have hD:∀j,j=k∨k∈ups.getD j []→L j=false:=fun j hj=>by
    rcases hj with hj|hj
    · rw[hj];exact hL
    ·
     cases hLj:L j with
     |false=>rfl
     |true=>have:=hc j hLj k hj;rw[hL]at this;cases this
   have:=h.1 L vs w (fun v w'=>Holds F (lst L k) (upd vs k v) w') hH hu hD hf
   exact this,Z5w.stepsF hA h.2⟩
theorem Z54 {id:Nat}{a:Act}{w:World}{l:List Oper}(A:(Nat→Value)→Act)(hm:P.follows .mixedOrders=true)(ups:List (List Nat))(hB:Z86 .any l.toArray ups=true)(hU:upsB .any l.toArray ups=true)
  (ds:List (Option Tmp)) (hds:l.map (·.dst)=ds) (hA:∀vs,putA ds vs a=A vs) (F:List Fact) (hO:(F.all fun f=>f.on.all fun j=>decide (j<l.length))=true) (hstart:∀f∈F,f.on= []→f.says (fun _=>undef) w.drew)
  (hsteps:Z5w P l.toArray F ups a A l 0) (hend:∀vs w',(∀f∈F,f.off= []→f.says (msk f.on vs) w')→Q .normal (A vs) w'):(Code.region id l.toArray true).wp P Q a w:=by
 refine Z5v hm ups hB hU ds hds F hO (fun f hf hon _=> ?_) (Z5w.stepsF hA hsteps) (fun vs w' h=>by rw[hA];exact hend vs w' fun f hf ho=>h f hf (fun _ _=>rfl) (by rw[ho];intro j hj;simp at hj))
 have h0:f.on= []:=by
  cases hf2:f.on with
  |nil=>rfl
  |cons x r=>have:=hon x (by rw[hf2];simp);cases this
 have e:msk f.on (fun _=>undef)=fun _=>undef:=by funext j;unfold msk;split<;>rfl
 rw[e];exact hstart f hf h0
theorem Holds.up {F:List Fact}{L:Nat→Bool}{vs:Nat→Value}{w:World}{U:List Nat}(h:Holds F L vs w){D:List Nat}(hup:∀k∈U,L k=true)(hdn:∀k∈D,L k=false)(k:Nat){f:Fact}(hk:F[k]? =some f)(hs:f.on.all (fun j=>U.elem j)=true)(hd:f.off.all (fun j=>D.elem j)=true):f.says (msk f.on vs) w:=
 h.at_ k hk (fun j hj=>hup j (by have:=List.all_eq_true.1 hs j hj;simpa using this)) fun j hj=>hdn j (by have:=List.all_eq_true.1 hd j hj;simpa using this)
theorem fa_cons {α:Type}{p:α→Prop}{a:α}{l:List α}(h:p a)(t:∀x∈l,p x):∀x∈a::l,p x:=List.forall_mem_cons.2 ⟨h,t⟩
theorem fa_nil {α:Type}(p:α→Prop):∀x∈([]:List α),p x:=fun _ h=>nomatch h
theorem fa_at {F:List Fact}{vs:Nat→Value}{w:World}(h:∀f∈F,f.off= []→f.says (msk f.on vs) w)(k:Nat){f:Fact}(hk:F[k]? =some f)(ho:f.off= []):f.says (msk f.on vs) w:=h f (List.mem_of_getElem? hk) ho
def Zbt (F:List Fact)(i:Nat)(ks:List Nat):Nat→Bool
 |0=>true
 |n+1=>(match F[n]? with|none=>true|some f=> !f.on.elem i||ks.elem n) && Zbt F i ks n
theorem Z6k {F:List Fact}{i:Nat}{ks:List Nat}:∀ {n:Nat},Zbt F i ks n=true→∀k f,k<n→F[k]? =some f→i∈f.on→k∈ks
 |0,_,k,_,hk,_,_=>by omega
 |n+1,h,k,f,hk,hf,hi=>by
  unfold Zbt at h;rw[Bool.and_eq_true]at h;by_cases e:k=n
  · subst e;have h1:=h.1;rw[hf]at h1;have h2:f.on.elem i=true:=(by simpa using hi);simp only[h2,Bool.not_true,Bool.false_or]at h1;simpa using h1
  · exact Z6k h.2 k f (by omega) hf hi
theorem Zdv {F:List Fact}{i:Nat}{p:Fact→Prop}(ks:List Nat)(hb:Zbt F i ks F.length=true)(h:∀f∈ks.filterMap (fun k=>F[k]?),p f):∀f∈F,i∈f.on→p f:=fun f hf hi=>by
 obtain⟨k,hk⟩:=List.mem_iff_getElem?.1 hf;have hkl:k<F.length:=(List.getElem?_eq_some_iff.1 hk).1;exact h f (List.mem_filterMap.2 ⟨k,Z6k hb k f hkl hk hi,hk⟩)
def Zdw (F:List Fact)(ks:List Nat):Nat→Bool
 |0=>true
 |n+1=>(match F[n]? with|none=>true|some f=> !f.on.isEmpty||ks.elem n) && Zdw F ks n
theorem Z6l {F:List Fact}{ks:List Nat}:∀ {n:Nat},Zdw F ks n=true→∀k f,k<n→F[k]? =some f→f.on= []→k∈ks
 |0,_,k,_,hk,_,_=>by omega
 |n+1,h,k,f,hk,hf,hi=>by
  unfold Zdw at h;rw[Bool.and_eq_true]at h;by_cases e:k=n
  · subst e;have h1:=h.1;rw[hf]at h1;simp only[hi,List.isEmpty_nil,Bool.not_true,Bool.false_or]at h1;simpa using h1
  · exact Z6l h.2 k f (by omega) hf hi
theorem fa_zero {F:List Fact}{p:Fact→Prop}(ks:List Nat)(hb:Zdw F ks F.length=true)(h:∀f∈ks.filterMap (fun k=>F[k]?),p f):∀f∈F,f.on= []→p f:=fun f hf hi=>by
 obtain⟨k,hk⟩:=List.mem_iff_getElem?.1 hf;have hkl:k<F.length:=(List.getElem?_eq_some_iff.1 hk).1;exact h f (List.mem_filterMap.2 ⟨k,Z6l hb k f hkl hk hi,hk⟩)
end
end Go.Dwo
namespace Go.Dw
open Go.RowKit
structure KpT (T:TypeId)(w w':World):Prop where
 s:w.heap.size≤w'.heap.size
 b:∀(b:Nat) (cs:Array Value) (fr:Nat×Nat),w.heap[b]? =some (Obj.cells cs T fr)→w'.heap[b]? =w.heap[b]?
theorem KpT.refl (T:TypeId)(w:World):KpT T w w:=⟨Zh _,fun _ _ _ _=>rfl⟩
theorem KpT.trans {T:TypeId}{a b c:World}(h:KpT T a b)(k:KpT T b c):KpT T a c:=
 ⟨Nat.le_trans h.s k.s,fun i cs fr hi=>by
  have h1:=h.b i cs fr hi;rw[←h1]
  exact k.b i cs fr (by rw[h1];exact hi)⟩
theorem KpT.of_below {T:TypeId}{w w':World}(h:Below w.heap.size w w'):KpT T w w':=
 ⟨h.size,fun i _ _ hi=>h.block i (Array.getElem?_eq_some_iff.1 hi).1⟩
theorem KpT.of_grown {T T':TypeId}{w w':World}{row:Option Nat}(hg:w.grownBy w' row)(ht:∀g,row=some g→∃cs fr,w.heap[g]? =some (.cells cs T' fr))(hne:T'≠T):KpT T w w':=
 ⟨hg.size,fun i cs fr hi=>by
  refine hg.block i (Array.getElem?_eq_some_iff.1 hi).1 fun e=> ?_;obtain⟨cs',fr',h1⟩:=ht i e.symm;rw[hi]at h1;injection h1 with h1;injection h1 with _ h1
  exact hne h1.symm⟩
theorem own_ty {w:World}{base n size:Nat}{T:TypeId}{v:Value}{xs:List Value}(h:w.ownsRow base T size v n xs):∀g,v.ownBlock=some g→∃cs fr,w.heap[g]? =some (.cells cs T fr):=fun g hg=>by
 rcases h.2 with⟨h1,_⟩|⟨g',cap,cur,hv,_,hgg,_⟩
 · subst h1;cases hg
 · subst hv;injection hg with hg;subst hg;exact⟨_,_,hgg⟩
theorem KpT.own {T T':TypeId}{w w':World}{base n size:Nat}{v:Value}{xs:List Value}(h:w.ownsRow base T' size v n xs)(hg:w.grownBy w' v.ownBlock)(hne:T'≠T):KpT T w w':= .of_grown hg (own_ty h) hne
theorem KpT.alloc {T:TypeId}{w w':World}(h:KpT T w w')(o:Obj):KpT T w (w'.alloc o):=
 h.trans (.of_below ((Zm _ _).alloc (Zh _) _))
theorem KpT.drew {T:TypeId}{w w':World}(h:KpT T w w'):KpT T w w'.drew:=⟨h.s,h.b⟩
theorem KpT.setCell {T T':TypeId}{w w':World}(h:KpT T w w'){a:Addr}{u:Value}(ht:∃cs fr,w'.heap[a.block]? =some (.cells cs T' fr))(hne:T'≠T):KpT T w (w'.setCell a u):=by
 refine h.trans ⟨by simp,fun i cs fr hi=> ?_⟩;have:i≠a.block:=fun e=>by subst e;obtain⟨cs',fr',h1⟩:=ht;rw[hi]at h1;injection h1 with h1;injection h1 with _ h1;exact hne h1.symm
 unfold World.setCell;simp only[Array.getElem?_modify];rw[if_neg (Ne.symm this)]
def RdT (T:TypeId)(w:World)(A:Option Addr)(vs:List Value):Prop:=Rd w A vs∧∀b off,A=some ⟨b,off,none⟩→vs≠ []→∃cs fr,w.heap[b]? =some (.cells cs T fr)
theorem RdT.rd {T:TypeId}{w:World}{A:Option Addr}{vs:List Value}(h:RdT T w A vs):Rd w A vs:=h.1
theorem RdT.kp {T:TypeId}{w w':World}{A:Option Addr}{vs:List Value}(h:RdT T w A vs)(hk:KpT T w w'):RdT T w' A vs:=by
 obtain⟨h1,h2⟩:=h;by_cases h0:vs= []
 · exact⟨.inl h0,fun _ _ _ h=>absurd h0 h⟩
 ·
  rcases h1 with h1|⟨b,off,e,hb,hc⟩
  · exact absurd h1 h0
  · obtain⟨cs,fr,hbb⟩:=h2 b off e h0;have hkb:=hk.b b cs fr hbb;refine⟨.inr ⟨b,off,e,Nat.lt_of_lt_of_le hb hk.s,fun j u hu=>(World.cell?_of_block hkb).trans (hc j u hu)⟩,fun b2 off2 e2 _=> ?_⟩;rw[e]at e2;injection e2 with e2;injection e2 with e2 e3;subst e2;exact⟨cs,fr,hkb.trans hbb⟩
theorem RdT.below {T:TypeId}{w w':World}{A:Option Addr}{vs:List Value}(h:RdT T w A vs)(hb:Below w.heap.size w w'):RdT T w' A vs:=h.kp (.of_below hb)
theorem RdT.nil (T:TypeId)(w:World)(A:Option Addr):RdT T w A []:=⟨.inl rfl,fun _ _ _ h=>absurd rfl h⟩
theorem RdT.of_own {T:TypeId}{w:World}{base size n c:Nat}{A:Option Addr}{xs:List Value}(h:w.ownsRow base T size (.slice A n c) n xs):RdT T w A xs:=by
 refine⟨Rd.of_own h,fun b off e h0=> ?_⟩;rcases h.2 with⟨h1,h2⟩|⟨g,cap,cur,hv,hb,hg,_⟩
 · exact absurd (Zk (by rw[h.1,h2];simp)) h0
 · injection hv with hv1 hv2 hv3;rw[e]at hv1;injection hv1 with hv1;injection hv1 with hv1 hv4;subst hv1;exact⟨_,_,hg⟩
end Go.Dw
namespace Go.Dwo
open Go Go.RowKit
section
variable {P:Program}
end
end Go.Dwo
