/- Readings of arguments as plain data, type by type: whatever program. -/
import Derived.Test.YtcemlhbfemenpaaGreatDoorBase
import Derived.ProofKit
import Derived.Deep.Slices
import Derived.OpenShut
namespace Go.Dw
open Go.RowKit Go.ChangeShapes Go.WideShapes
def Dec {H:Type}(enc:TypeId×Value→H)(P:Program)(w:World)(t:TypeId){α:Type}(cells:α→List Value)(ok:α→Prop):Prop:=
 ∀(fuel:Nat) (cs:List Value) (x:DataW H×List MemPlace),DataW.trod enc P w 0 (fun _=>true) true fuel t cs=some x→∃a,cs=cells a∧ok a
theorem inI64_of {n:Int}(h:(Lit.int .i64 n).wf=true):Z0l n:=by
 have:=bounds_i64 h;exact⟨by omega,by omega⟩
section
variable {H:Type}{enc:TypeId×Value→H}{P:Program}{w:World}
theorem Dec.int {t:TypeId}(ht:P.underlying t=some (.int .i64)):Dec enc P w t (fun n:Int=> [.int .i64 n]) Z0l:=by
 intro fuel cs x h;obtain⟨n,rfl,_,hw⟩:=DataW.trod_int ht h;exact⟨n,rfl,inI64_of hw⟩
theorem Dec.bool {t:TypeId}(ht:P.underlying t=some .bool):Dec enc P w t (fun b:Bool=> [.bool b]) (fun _=>True):=by
 intro fuel cs x h;obtain⟨b,rfl,_⟩:=DataW.trod_bool ht h;exact⟨b,rfl,trivial⟩
theorem Dec.string {t:TypeId}(ht:P.underlying t=some .string):Dec enc P w t (fun s:ByteArray=> [.string s]) (fun s=>s.size≤maxLen):=by
 intro fuel cs x h;obtain⟨s,rfl,_,hs⟩:=DataW.trod_string ht h;exact⟨s,rfl,hs⟩
theorem Dec.map {t:TypeId}{α β:Type}{cells:α→List Value}{ok:α→Prop}{cells':β→List Value}{ok':β→Prop}(d:Dec enc P w t cells ok)(f:α→β)
  (hc:∀a,cells a=cells' (f a)) (ho:∀a,ok a→ok' (f a)):Dec enc P w t cells' ok':=by
 intro fuel cs x h;obtain⟨a,rfl,hk⟩:=d fuel cs x h;exact⟨f a,hc a,ho a hk⟩
theorem Zdx {α:Type}(cells:α→List Value)(ok:α→Prop)(s:Nat):∀(n:Nat) (C:Nat→List Value),(∀i,i<n→∃a,C i=cells a∧ok a)→
  ∃l:List α,l.length=n∧(∀a∈l,ok a)∧∀i a,l[i]? =some a→C i=cells a
 |0,_,_=>⟨[],rfl,by simp,by simp⟩
 |n+1,C,h=>by
  obtain⟨l,hl,hok,hc⟩:=Zdx cells ok s n C (fun i hi=>h i (by omega));obtain⟨a,ha,hka⟩:=h n (by omega);refine⟨l++ [a],by simp[hl], ?_, ?_⟩
  ·
   intro b hb;rcases List.mem_append.1 hb with hb|hb
   · exact hok b hb
   · simp at hb;subst hb;exact hka
  ·
   intro i b hb;by_cases hi:i<n
   · rw[List.getElem?_append_left (by omega)]at hb;exact hc i b hb
   · have:i=n:=(by have:=(List.getElem?_eq_some_iff.1 hb).1;simp[hl]at this;omega);subst this;rw[List.getElem?_append_right (by omega),hl]at hb;simp at hb;subst hb;exact ha
theorem Zdy {α:Type}(cells:α→List Value)(s:Nat)(hs:∀a,(cells a).length=s)(hs0:0<s):∀(l:List α) (j:Nat) (u:Value),(l.flatMap cells)[j]? =some u→∃i k a,j=i*s+k∧k<s∧l[i]? =some a∧(cells a)[k]? =some u
 | [],j,u,h=>by simp at h
 |a::l,j,u,h=>by
  rw[List.flatMap_cons]at h;by_cases hj:j<s
  · rw[List.getElem?_append_left (by rw[hs];exact hj)]at h;exact⟨0,j,a,by simp,hj,by simp,h⟩
  · rw[List.getElem?_append_right (by rw[hs];omega),hs]at h;obtain⟨i,k,b,h1,h2,h3,h4⟩:=Zdy cells s hs hs0 l (j - s) u h;exact⟨i+1,k,b,by rw[Nat.add_mul];omega,h2,by simpa using h3,h4⟩
theorem Z0x {α:Type}(cells:α→List Value)(s:Nat)(hs:∀a,(cells a).length=s):∀(l:List α),(l.flatMap cells).length=l.length*s
 | []=>by simp
 |a::l=>by rw[List.flatMap_cons,Zj,hs,Z0x cells s hs l,List.length_cons,Nat.add_mul];omega
theorem flat_get {α:Type}(cells:α→List Value)(s:Nat)(hs:∀a,(cells a).length=s):∀(l:List α) (i k:Nat) (h:i<l.length),k<s→(l.flatMap cells)[i*s+k]? =(cells l[i])[k]?
 | [],i,k,h,hk=>by simp at h
 |a::l,i,k,h,hk=>by
  rw[List.flatMap_cons];cases i with
  |zero=>rw[Nat.zero_mul,Nat.zero_add,List.getElem?_append_left (by rw[hs];exact hk)];rfl
  |succ i=>
   rw[List.getElem?_append_right (by rw[hs,Nat.add_mul];omega),hs,show(i+1)*s+k - s=i*s+k by rw[Nat.add_mul];omega];exact flat_get cells s hs l i k (by simpa using h) hk
theorem Dec.sliceN {t e:TypeId}{α:Type}{cells:α→List Value}{ok:α→Prop}(s:Nat)(ht:P.underlying t=some (.slice e))(hE:P.cellsOf e=s)(hs:∀a,(cells a).length=s)(hs0:0<s)
  (d:Dec enc P w e cells ok):Dec enc P w t (fun l:Slc α=> [l.v]) (fun l=>(l.xs.length≤maxLen∧Rd w l.a (l.xs.flatMap cells)∧∀a∈l.xs,ok a)∧l.xs.length≤l.c∧l.c≤maxLen∧(l.a=none→l.c=0)):=by
 intro fuel cs x h;rcases Deep.open_slice ht h with⟨rfl,_⟩|⟨a,len,cap,m,n,D,Pl,rfl,hb,hl,hm,hmm,hx,hi⟩
 · exact⟨⟨none,0,[]⟩,rfl,⟨by simp,.inl rfl,by simp⟩,by simp,by simp,fun _=>rfl⟩
 ·
  simp at hmm;rw[hE]at hi;have hget:∀i,i<len→∃b,(w.cells? 0 (a.add (i*s)) s).getD []=cells b∧ok b:=by intro i hil;obtain⟨cs',h1,h2⟩:=hi i (by omega);obtain⟨b,hb1,hb2⟩:=d n cs' _ h2;exact⟨b,by rw[h1];exact hb1,hb2⟩
  obtain⟨l,hlen,hok,hcs⟩:=Zdx cells ok s len _ hget;refine⟨⟨some a,cap,l⟩,by simp[Slc.v,hlen],⟨by simp[hlen];omega, ?_,hok⟩,by simp[hlen];omega,by simp;omega,fun h=>by cases h⟩;show Rd w (some a) (l.flatMap cells);by_cases h0:len=0
  · left;have:l= []:=Zk (by omega);simp[this]
  · obtain⟨b,off,spot⟩:=a;obtain⟨cs0,h1,h2⟩:=hi 0 (by omega);obtain⟨_,hcl,hat⟩:=World.cells?_some h1;obtain⟨b0,hb1,_⟩:=d n cs0 _ h2;have h0':=hat 0 hs0;have hsome:∃u,cs0[0]? =some u:=⟨cs0[0]'(by omega),Zi (by omega)⟩;obtain⟨u0,hu0⟩:=hsome;rw[hu0]at h0';have hspot:spot=none:=(by simpa [Addr.add]using World.cell?_spot h0');subst hspot;have hblt:b<w.heap.size:=(by simpa [Addr.add]using World.block_lt_of_cell? w _ h0');refine .inr ⟨b,off,rfl,hblt,fun j u hu=> ?_⟩;obtain⟨i,k,c,rfl,hk,hli,hck⟩:=Zdy cells s hs hs0 l j u hu;have hil:i<len:=(by have:=(List.getElem?_eq_some_iff.1 hli).1;omega);obtain⟨cs',h3,h4⟩:=hi i (by omega);obtain⟨_,_,hat'⟩:=World.cells?_some h3;have h5:=hcs i c hli;rw[h3]at h5;have h6:=hat' k hk;have hadd:((⟨b,off,none⟩:Addr).add (i*s)).add k=⟨b,off+(i*s+k),none⟩:=(by unfold Addr.add;by_cases e1:i*s=0<;>by_cases e2:k=0<;>simp[e1,e2]<;>omega);rw[hadd]at h6;rw[h6];simp at h5;rw[h5];exact hck
theorem Dec.sliceC {t e:TypeId}{α:Type}{cells:α→List Value}{ok:α→Prop}(s:Nat)(ht:P.underlying t=some (.slice e))(hE:P.cellsOf e=s)(hs:∀a,(cells a).length=s)(hs0:0<s)
  (d:Dec enc P w e cells ok):Dec enc P w t (fun l:Slc α=> [l.v]) (fun l=>(l.xs.length≤maxLen∧Rd w l.a (l.xs.flatMap cells)∧∀a∈l.xs,ok a)∧l.xs.length≤l.c∧l.c≤maxLen):=
 (Dec.sliceN s ht hE hs hs0 d).map id (fun _=>rfl) (fun _ h=>⟨h.1,h.2.1,h.2.2.1⟩)
theorem Dec.slice {t e:TypeId}{α:Type}{cells:α→List Value}{ok:α→Prop}(s:Nat)(ht:P.underlying t=some (.slice e))(hE:P.cellsOf e=s)(hs:∀a,(cells a).length=s)(hs0:0<s)
  (d:Dec enc P w e cells ok):Dec enc P w t (fun l:Slc α=> [l.v]) (fun l=>l.xs.length≤maxLen∧Rd w l.a (l.xs.flatMap cells)∧∀a∈l.xs,ok a):=
 (Dec.sliceC s ht hE hs hs0 d).map id (fun _=>rfl) (fun _ h=>h.1)
def Z4r {H:Type}(enc:TypeId×Value→H)(P:Program)(w:World)(off:Nat)(fl:List (TypeId×Nat×Nat)){α:Type}(cells:α→List Value)(ok:α→Prop)(tot:Nat):Prop:=
 ∀(n:Nat) (cs:List Value),off+tot≤cs.length→(∀e∈fl,∃y,DataW.trod enc P w 0 (fun _=>true) true n e.1 ((cs.drop e.2.1).take e.2.2)=some y)→∃a,(cs.drop off).take tot=cells a∧ok a
theorem Z4r.nil {off:Nat}:Z4r enc P w off [] (fun _:Unit=> []) (fun _=>True) 0:=fun _ _ _ _=>⟨(),by simp,trivial⟩
theorem Z4r.cons {off s tot t:Nat}{fl:List (TypeId×Nat×Nat)}{α β:Type}{c0:α→List Value}{k0:α→Prop}{c1:β→List Value}{k1:β→Prop}(d:Dec enc P w t c0 k0)(r:Z4r enc P w (off+s) fl c1 k1 tot):
  Z4r enc P w off ((t,off,s)::fl) (fun p:α×β=>c0 p.1++c1 p.2) (fun p=>k0 p.1∧k1 p.2) (s+tot):=by
 intro n cs hl h;obtain⟨y,hy⟩:=h (t,off,s) (by simp);obtain⟨a,ha,hka⟩:=d n _ _ hy;obtain⟨b,hb,hkb⟩:=r n cs (by omega) (fun e he=>h e (by simp[he]));refine⟨(a,b), ?_,hka,hkb⟩;show _=c0 a++c1 b;rw[←ha,←hb,List.take_add,List.drop_drop]
theorem Dec.struct {t tot:TypeId}{fs:Array Field}{fl:List (TypeId×Nat×Nat)}{α:Type}{cells:α→List Value}{ok:α→Prop}(ht:P.underlying t=some (.struct fs))(hc:P.cellsOf t=tot)
  (hf:fs.toList.map (fun f=>(f.type,f.offset,P.cellsOf f.type))=fl) (r:Z4r enc P w 0 fl cells ok tot):Dec enc P w t cells ok:=by
 intro fuel cs x h;obtain⟨xs,n,_,_,hlen,hxl,hg⟩:=DataW.trod_struct ht h
 obtain⟨a,ha,hk⟩:=r n cs (by omega) (fun e he=>by
  rw[←hf,List.mem_map]at he;obtain⟨f,hfm,rfl⟩:=he;obtain⟨i,hi,rfl⟩:=List.getElem_of_mem hfm;have hi':i<fs.size:=by simpa using hi
  have h1:=hg i fs[i] (by simp[hi']);have hxi:i<xs.length:=by omega
  refine⟨xs[i], ?_⟩;have h2:fs.toList[i]=fs[i]:=by simp
  rw[h2]
  exact h1.trans (Zi hxi))
 refine⟨a, ?_,hk⟩;rw[←ha,List.drop_zero,Zl (by omega)]
theorem Dec.arg {t:TypeId}{α:Type}{cells:α→List Value}{ok:α→Prop}(d:Dec enc P w t cells ok){v:Value}{d0:DataW H}{p:List MemPlace}(h:DataW.Trod enc P w 0 (fun _=>true) true t v d0 p):∃a,v.cells.toList=cells a∧ok a:=by
 obtain⟨fuel,hf⟩:=h;exact d _ _ _ hf
theorem Dec.arg_struct {t:TypeId}{fs:Array Field}{α:Type}{cells:α→List Value}{ok:α→Prop}{r:Reach}{b0:Nat}(d:Dec enc P w t cells ok)(ht:P.underlying t=some (.struct fs)){v:Value}{d0:DataW H}{p:List MemPlace}
  (hv:Value.okWide P w r b0 t v) (h:DataW.Trod enc P w 0 (fun _=>true) true t v d0 p):∃x,v= .agg (cells x).toArray∧ok x:=by
 obtain⟨cs,rfl,_⟩:=okWide_struct ht hv;obtain⟨x,hx,hk⟩:=d.arg h;refine⟨x, ?_,hk⟩;rw[←hx];simp[Value.cells]
end
end Go.Dw
