/- A region by facts, in fewer words: what is at hand lies behind Hid from the start. -/
import Derived.Test.YtcemlhbfemenpaaGreatDoorFacZ
namespace Go.Dwo
open Go Go.RowKit
theorem fcL {α:Type}{p:α→Prop}{a:α}{l:List α}(h:p a)(t:∀x∈l,p x):∀x∈a::l,p x:=fa_cons h t
theorem fcN {α:Type}(p:α→Prop):∀x∈([]:List α),p x:=fa_nil p
theorem fcK {F:List Fact}{i:Nat}{p:Fact→Prop}(ks:List Nat)(hb:Zbt F i ks F.length=true)(h:∀f∈ks.filterMap (fun k=>F[k]?),p f):∀f∈F,i∈f.on→p f:=Zdv ks hb h
theorem fcZ {F:List Fact}{p:Fact→Prop}(ks:List Nat)(hb:Zdw F ks F.length=true)(h:∀f∈ks.filterMap (fun k=>F[k]?),p f):∀f∈F,f.on= []→p f:=fa_zero ks hb h
section
variable {P:Program}{Q:Exit→Act→World→Prop}
def StepH (P:Program)(ops:Array Oper)(F:List Fact)(ups:List (List Nat))(a:Act)(A:(Nat→Value)→Act)(i:Nat)(o:Oper):Prop:=
 ∀(L:Nat→Bool) (vs:Nat→Value) (w:World) (K:Value→World→Prop),Hid (Holds F L vs w)→Hid (∀k∈ups.getD i [],L k=true)→Hid (∀j,j=i∨i∈ups.getD j []→L j=false)→
  Hid (∀v w',(∀f∈F,i∉f.on→i∉f.off→(∀j∈f.on,L j=true)→f.says (msk f.on vs) w→f.says (msk f.on vs) w')→
   (∀f∈F,i∈f.on→(∀j∈f.on,j≠i→L j=true∧i∉ups.getD j [])→f.says (msk f.on (upd vs i v)) w')→K v w')→
  if Region.wanted o (yielded ops (actOf a (A vs) (ups.getD i [])).tmps)then Oper.tame P o (actOf a (A vs) (ups.getD i [])) w K else K undef w
def Z88 (P:Program)(ops:Array Oper)(F:List Fact)(ups:List (List Nat))(a:Act)(A:(Nat→Value)→Act):List Oper→Nat→Prop
 | [],_=>True
 |o::r,k=>StepH P ops F ups a A k o∧Z88 P ops F ups a A r (k+1)
theorem Z88.stepsK {ops:Array Oper}{F:List Fact}{ups:List (List Nat)}{a:Act}{A:(Nat→Value)→Act}:∀ {l:List Oper} {k:Nat},Z88 P ops F ups a A l k→Z5w P ops F ups a A l k
 | [],_,_=>trivial
 |_::_,_,h=>⟨fun L vs w K h1 h2 h3 h4=>h.1 L vs w K (Lib.hid h1) (Lib.hid h2) (Lib.hid h3) (Lib.hid h4),Z88.stepsK h.2⟩
theorem Z00 {id:Nat}{a:Act}{w:World}{l:List Oper}(A:(Nat→Value)→Act)(hm:P.follows .mixedOrders=true)(ups:List (List Nat))(hB:Z86 .any l.toArray ups=true)(hU:upsB .any l.toArray ups=true)
  (ds:List (Option Tmp)) (hds:l.map (·.dst)=ds) (hA:∀vs,putA ds vs a=A vs) (F:List Fact) (hO:(F.all fun f=>f.on.all fun j=>decide (j<l.length))=true) (hstart:∀f∈F,f.on= []→f.says (fun _=>undef) w.drew)
  (hsteps:Z88 P l.toArray F ups a A l 0) (hend:∀vs w',Hid (∀f∈F,f.off= []→f.says (msk f.on vs) w')→Q .normal (A vs) w'):(Code.region id l.toArray true).wp P Q a w:=
 Z54 A hm ups hB hU ds hds hA F hO hstart hsteps.stepsK fun vs w' h=>hend vs w' (Lib.hid h)
section
variable {F:List Fact}{L:Nat→Bool}{vs:Nat→Value}{w:World}{ups:List (List Nat)}{i:Nat}
theorem fcG (h:Hid (Holds F L vs w))(hu:Hid (∀k∈ups.getD i [],L k=true))(hD:Hid (∀j,j=i∨i∈ups.getD j []→L j=false))(k:Nat){f:Fact}(hk:F[k]? =some f)
  (hs:f.on.all (fun j=>(ups.getD i []).elem j)=true) (hd:f.off.all (fun j=>j==i||(ups.getD j []).elem i)=true):f.says (msk f.on vs) w:=
 h.o.at_ k hk (fun j hj=>hu.o j (by have:=List.all_eq_true.1 hs j hj;simpa using this)) fun j hj=>hD.o j (by have:=List.all_eq_true.1 hd j hj;simpa using this)
theorem fcE (h:Hid (∀f∈F,f.off= []→f.says (msk f.on vs) w))(k:Nat){f:Fact}(hk:F[k]? =some f)(ho:f.off= []):f.says (msk f.on vs) w:=fa_at h.o k hk ho
theorem fcD (hD:Hid (∀j,j=i∨i∈ups.getD j []→L j=false))(l:List Nat)(h:l.all (fun j=>j==i||(ups.getD j []).elem i)=true):∀k∈l,L k=false:=fun k hk=>hD.o k (by have:=List.all_eq_true.1 h k hk;simpa using this)
theorem fcV {K:Value→World→Prop}{v:Value}(hK:Hid (∀v w',(∀f∈F,i∉f.on→i∉f.off→(∀j∈f.on,L j=true)→f.says (msk f.on vs) w→f.says (msk f.on vs) w')→
   (∀f∈F,i∈f.on→(∀j∈f.on,j≠i→L j=true∧i∉ups.getD j [])→f.says (msk f.on (upd vs i v)) w')→K v w'))
  (h:∀f∈F,i∈f.on→(∀j∈f.on,j≠i→L j=true∧i∉ups.getD j [])→f.says (msk f.on (upd vs i v)) w):K v w:=hK.out v w (fun _ _ _ _ _ h=>h) h
theorem fcC {K:Value→World→Prop}{v:Value}{w':World}(hK:Hid (∀v w',(∀f∈F,i∉f.on→i∉f.off→(∀j∈f.on,L j=true)→f.says (msk f.on vs) w→f.says (msk f.on vs) w')→
   (∀f∈F,i∈f.on→(∀j∈f.on,j≠i→L j=true∧i∉ups.getD j [])→f.says (msk f.on (upd vs i v)) w')→K v w'))
  (hb:∀f∈F,∀vs,f.says vs w→f.says vs w')
  (h:∀f∈F,i∈f.on→(∀j∈f.on,j≠i→L j=true∧i∉ups.getD j [])→f.says (msk f.on (upd vs i v)) w'):K v w':=hK.out v w' (fun f hf _ _ _=>hb f hf _) h
theorem fcP {p:Fact→Prop}(k:Nat)(hb:Zbt F i [k] F.length=true){f:Fact}(hk:F[k]? =some f)(h:p f):∀g∈F,i∈g.on→p g:=
 Zdv [k] hb fun g hg=>by have:g=f:=(by simpa [hk]using hg);rw[this];exact h
end
end
end Go.Dwo
