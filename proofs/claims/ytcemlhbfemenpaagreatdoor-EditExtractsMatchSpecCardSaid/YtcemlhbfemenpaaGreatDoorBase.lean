/- Words for memory that hold over any program: a slice that reads as a list of cells; lists of integers. -/
import Derived.WalkLawsBesides
import Derived.WalkSpells
import Derived.Deep.AppendLies
import Derived.BigQuiet
import Derived.Lib.Hide
import Derived.Lib.BufferRead
namespace Go.Dw
open Go.RowKit
def Rd (w:World)(A:Option Addr)(vs:List Value):Prop:=
 vs= []∨∃b off,A=some ⟨b,off,none⟩∧b<w.heap.size∧∀j u,vs[j]? =some u→w.cell? ⟨b,off+j,none⟩=some u
theorem Rd.nil (w:World)(A:Option Addr):Rd w A []:= .inl rfl
theorem Rd.keep {w w':World}{A:Option Addr}{vs:List Value}(h:Rd w A vs)(hs:w.heap.size≤w'.heap.size)
  (hk:∀p:Addr,p.block<w.heap.size→w'.cell? p=w.cell? p):Rd w' A vs:=by
 rcases h with h|⟨b,off,e,hb,hc⟩
 · exact .inl h
 · exact .inr ⟨b,off,e,by omega,fun j u hu=>(hk _ hb).trans (hc j u hu)⟩
theorem Rd.below {w w':World}{A:Option Addr}{vs:List Value}(h:Rd w A vs)(hb:Below w.heap.size w w'):Rd w' A vs:=
 h.keep hb.size fun _ hp=>hb.cell hp
theorem Rd.at_ {w:World}{A:Option Addr}{vs:List Value}(h:Rd w A vs)(hn:0<vs.length):
  ∃b off,A=some ⟨b,off,none⟩∧b<w.heap.size∧∀j u,vs[j]? =some u→w.cell? ⟨b,off+j,none⟩=some u:=by
 rcases h with rfl|h
 · simp at hn
 · exact h
def ic (xs:List Int):List Value:=xs.map (Value.int .i64)
theorem Zcm (xs:List Int):(ic xs).length=xs.length:=by simp[ic]
theorem ic_at (xs:List Int)(k:Nat)(h:k<xs.length):(ic xs)[k]? =some (.int .i64 xs[k]):=by simp[ic,h]
theorem Z02 {k:IntKind}{a b:Int}(h:a=b):Ending.returned (.int k a)= .returned (.int k b):=by rw[h]
theorem Z0a {a b:Bool}(h:a=b):Ending.returned (.bool a)= .returned (.bool b):=by rw[h]
def bc (bs:List UInt8):List Value:=bs.map fun b=>Value.int .u8 b.toNat
theorem Zcn (a b:List UInt8):bc (a++b)=bc a++bc b:=by simp[bc]
theorem Rd.of_own {w:World}{base e size n c:Nat}{A:Option Addr}{xs:List Value}(h:w.ownsRow base e size (.slice A n c) n xs):Rd w A xs:=by
 rcases h.2 with⟨h0,h1⟩|⟨g,cap,cur,hv,hb,hg,_⟩
 · exact .inl (List.eq_nil_of_length_eq_zero (by rw[h.1,h1];simp))
 · injection hv with hv1 hv2 hv3;subst hv1;refine .inr ⟨g,0,rfl,(Array.getElem?_eq_some_iff.1 hg).1,fun j u hu=> ?_⟩;have:=h.cells (g:=g) rfl j u hu;have hadd:(⟨g,0,none⟩:Addr).add j=⟨g,0+j,none⟩:=(by unfold Addr.add;split<;>simp_all);rw[←hadd];exact this
theorem Z08 {w:World}{base e size n:Nat}{v:Value}{xs:List Value}(h:w.ownsRow base e size v n xs):∃A c,v= .slice A n c:=by
 rcases h.2 with⟨rfl,rfl⟩|⟨g,cap,cur,rfl,_⟩
 · exact⟨_,_,rfl⟩
 · exact⟨_,_,rfl⟩
def IsRow (k:IntKind)(w:World)(a:Option Addr)(len cap:Nat)(zs:List Int):Prop:=
 (a=none∧len=0∧cap=0∧zs= [])∨
 ∃x,a=some x∧len≤cap∧cap≤maxLen∧zs.length=cap∧(∀i,i<zs.length→w.cell? (x.add i)=some (.int k (zs.getD i 0)))∧∀n∈zs,(Lit.int k n).wf=true
def Z1c (f:Nat→Int):Nat→Int
 |0=>0
 |n+1=>if Z1c f n=0 then f n else Z1c f n
theorem Z2i {f:Nat→Int}:∀ {n:Nat},(∀j,j<n→f j=0)→Z1c f n=0
 |0,_=>rfl
 |n+1,h=>by rw[Z1c,Z2i (fun j hj=>h j (by omega)),if_pos rfl];exact h n (by omega)
theorem Z25 {f:Nat→Int}{k:Nat}(h:∀j,j<k→f j=0)(hb:f k≠0):∀ {n:Nat},k<n→Z1c f n=f k
 |0,hk=>by omega
 |n+1,hk=>by
  rw[Z1c];by_cases he:k=n
  · subst he;rw[Z2i h,if_pos rfl]
  · rw[Z25 h hb (by omega),if_neg hb]
theorem Z56 {f:Nat→Int}{k:Nat}(h:∀j,j<k→f j=0)(hk:f k=0):∀j,j<k+1→f j=0:=by
 intro j hj;by_cases he:j=k
 · subst he;exact hk
 · exact h j (by omega)
def pc (ps:List (Int×Int)):List Value:=ps.flatMap fun p=> [.int .i64 p.1,.int .i64 p.2]
structure Slc (α:Type) where
 a:Option Addr
 c:Nat
 xs:List α
def Slc.v {α:Type}(s:Slc α):Value:= .slice s.a s.xs.length s.c
def Z0l (n:Int):Prop:= -9223372036854775808≤n∧n≤9223372036854775807
theorem below_drewN {B:Nat}{a w:World}(h:Below B a w)(n:Nat):Below B a (w.drewN n):=⟨h.os,h.tape,h.output,h.size,h.block⟩
theorem Z04 {B:Nat}{e:TypeId}{k:Nat}{v:Value}{n:Nat}{xs:List Value}{w w':World}(h:w.ownsRow B e k v n xs)(hb:Below w.heap.size w w'):w'.ownsRow B e k v n xs:=
 h.kept (row:=none) ⟨hb.os,hb.tape,hb.output,hb.size,fun j hj _=>hb.block j hj⟩ (by cases hv:v.ownBlock<;>simp)
end Go.Dw
namespace Go.Dw
open Go Go.RowKit
theorem Za{p:Prop}(h:p):Go.RowKit.Hid p:=Go.Lib.hid h
theorem Zb{α:Type _}{l:List α}{i:Nat}{a:α}:l.toArray.setIfInBounds i a=(l.set i a).toArray:=by simp
theorem Zc{α:Type _}{l:List α}{x a:α}:(x::l).set 0 a=a::l:=rfl
theorem Zd{α:Type _}{l:List α}{x a:α}{n:Nat}:List.set (x::l) (n+1) a=x::List.set l n a:=rfl
theorem Ze{α:Type _}{l:List α}{a:α}:(a::l)[0]?=some a:=rfl
theorem Zf{α:Type _}{l:List α}{a:α}{i:Nat}:(a::l)[i+1]?=l[i]?:=rfl
theorem Zg{α:Type _}{l:List α}{i:Nat}{a:α}:l.getD i a=(l[i]?).getD a:=List.getD_eq_getElem?_getD ..
theorem Zh(n:Nat):n≤n:=Nat.le_refl n
theorem Zi{α:Type _}{l:List α}{i:Nat}(h:i<l.length):l[i]?=some l[i]:=List.getElem?_eq_getElem h
theorem Zj{α:Type _}{l:List α}{m:List α}:(l++m).length=l.length+m.length:=by simp
theorem Zk{α:Type _}{l:List α}(h:l.length=0):l=[]:=List.eq_nil_of_length_eq_zero h
theorem Zl{α:Type _}{l:List α}{i:Nat}(h:l.length≤i):l.take i=l:=List.take_of_length_le h
theorem Zm(B:Nat)(w:World):Below B w w:=Below.refl B w
theorem Zn{α:Type _}{l:List α}{n:Nat}(h:n<l.length):l[n]∈l:=List.getElem_mem h
theorem Zo{α:Type _}{l:Array α}:l.toList.length=l.size:=by simp
end Go.Dw
namespace Go.RowKit
theorem Hid.o{p:Prop}(h:Hid p):p:=h
end Go.RowKit
