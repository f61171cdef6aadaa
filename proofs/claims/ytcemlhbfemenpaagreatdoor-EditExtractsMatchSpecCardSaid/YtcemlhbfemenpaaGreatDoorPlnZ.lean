/- Several texts laid into one: Plain: natural numbers as digits, the lowest first; Plain: the steps of sums, differences, products and quotients by digits; Plain: decimal digits as text; Plain: ratios as texts; their faults; Plain: the order of strings; Plain: edits; their faults; Plain: what right edits are, and how long their text is; Plain: quotients in lowest terms, and how long their numbers are; Plain: the factor of a clip at a sample; Plain: how a number is written and read by groups of digits; Plain: numbers as limbs of four digits (the reference's way); Plain: lists of clips that are the same in another order; Plain: the reference's division: a digit by halving, and the next limb; -/
import Derived.Test.YtcemlhbfemenpaaGreatDoorBase
import Derived.Lib.Atoi
import Derived.Lib.Bytealg
import Derived.Lib.ItoaLen
namespace Go.Dw
open Go.RowKit
def val (B:Nat):List Nat→Nat
 | []=>0
 |d::l=>d+B*val B l
def Ds (B:Nat)(l:List Nat):Prop:=∀d∈l,d<B
def Nm (B:Nat)(l:List Nat):Prop:=Ds B l∧l.getLast? ≠some 0
section
variable {B:Nat}
theorem val_append:∀(a b:List Nat),val B (a++b)=val B a+B ^ a.length*val B b
 | [],b=>by simp[val]
 |d::a,b=>by simp only[List.cons_append,val,List.length_cons];rw[val_append a b,Nat.mul_add,Nat.pow_succ,Nat.mul_comm (B ^ a.length) B,Nat.mul_assoc,Nat.add_assoc]
theorem Ds.nil:Ds B []:=by intro d h;simp at h
theorem Ds.app {a b:List Nat}(h:Ds B a)(k:Ds B b):Ds B (a++b):=by
 intro d hd;rcases List.mem_append.1 hd with e|e
 · exact h d e
 · exact k d e
theorem Ds.take {l:List Nat}(h:Ds B l)(n:Nat):Ds B (l.take n):=fun d hd=>h d (List.mem_of_mem_take hd)
theorem Ds.drop {l:List Nat}(h:Ds B l)(n:Nat):Ds B (l.drop n):=fun d hd=>h d (List.mem_of_mem_drop hd)
theorem Ds.get {l:List Nat}(h:Ds B l)(i:Nat)(hi:i<l.length):l[i]<B:=h _ (Zn hi)
theorem Ds.getD {l:List Nat}(h:Ds B l)(hB:0<B)(i:Nat):l.getD i 0<B:=by
 by_cases hi:i<l.length
 · rw[Zg,Zi hi];exact h.get i hi
 · rw[Zg,List.getElem?_eq_none (by omega)];exact hB
theorem Ds.set {l:List Nat}(h:Ds B l)(i d:Nat)(hd:d<B):Ds B (l.set i d):=by
 intro x hx;rcases List.mem_or_eq_of_mem_set hx with e|e
 · exact h x e
 · subst e;exact hd
theorem Z2z (hB:0<B):∀ {l:List Nat},Ds B l→val B l<B ^ l.length
 | [],_=>by simp[val]
 |d::l,h=>by have h1:=Z2z hB (l:=l) (fun x hx=>h x (by simp[hx]));have h2:d<B:=h d (by simp);simp only[val,List.length_cons,Nat.pow_succ];have h3:val B l+1≤B ^ l.length:=h1;have h4:=Nat.mul_le_mul_left B h3;rw[Nat.mul_comm (B ^ l.length) B];rw[Nat.mul_add]at h4;omega
theorem Z5j:∀n:Nat,val B (List.replicate n 0)=0
 |0=>rfl
 |n+1=>by rw[List.replicate_succ,val,Z5j n];simp
theorem Z0v (l:List Nat)(d:Nat):val B (l++ [d])=val B l+B ^ l.length*d:=by
 rw[val_append];simp[val]
theorem Z06 (l:List Nat)(i:Nat):val B (l.take (i+1))=val B (l.take i)+B ^ i*l.getD i 0:=by
 by_cases hi:i<l.length
 · rw[List.take_succ_eq_append_getElem hi,Z0v,List.length_take,Nat.min_eq_left (Nat.le_of_lt hi),Zg,Zi hi];rfl
 · rw[Zl (by omega),Zl (by omega),Zg,List.getElem?_eq_none (by omega)];simp
theorem Z1p (l:List Nat)(i:Nat):val B l=val B (l.take i)+B ^ (min i l.length)*val B (l.drop i):=by
 conv=>lhs;rw[←List.take_append_drop i l]
 rw[val_append,List.length_take]
theorem Nm.nil:Nm B []:=⟨Ds.nil,by simp⟩
theorem Nm.last {l:List Nat}(h:Nm B l)(h0:0<l.length):0<l[l.length - 1]:=by
 have h1:=h.2;rw[List.getLast?_eq_getElem?,Zi (by omega)]at h1;have h2:l[l.length - 1]≠0:=fun e=>h1 (by rw[e]);omega
theorem Nm.mk' {l:List Nat}(h:Ds B l)(h0:∀hl:0<l.length,0<l[l.length - 1]):Nm B l:=by
 refine⟨h,fun e=> ?_⟩;rw[List.getLast?_eq_getElem?]at e;by_cases hl:0<l.length
 · rw[Zi (by omega)]at e;have:=h0 hl;injection e with e;omega
 · rw[List.getElem?_eq_none (by omega)]at e;cases e
theorem Z3q {l:List Nat}(h:Nm B l)(h0:0<l.length):B ^ (l.length - 1)≤val B l:=by
 have h1:=h.last h0;have h2:=Z06 (B:=B) l (l.length - 1);rw[show l.length - 1+1=l.length by omega,List.take_length,Zg,Zi (by omega)]at h2;rw[h2];have h3:=Nat.mul_le_mul_left (B ^ (l.length - 1)) h1;simp only[Option.getD_some];omega
theorem Nm.pos {l:List Nat}(hB:0<B)(h:Nm B l)(h0:0<l.length):0<val B l:=
 Nat.lt_of_lt_of_le (Nat.pow_pos hB) (Z3q h h0)
theorem Nm.zero_iff {l:List Nat}(hB:0<B)(h:Nm B l):val B l=0↔l= []:=by
 constructor
 ·
  intro e;rcases Nat.eq_zero_or_pos l.length with h0|h0
  · exact Zk h0
  · have:=h.pos hB h0;omega
 · rintro rfl;rfl
theorem Nm.lt_of_len {a b:List Nat}(hB:1<B)(ha:Ds B a)(hb:Nm B b)(h:a.length<b.length):val B a<val B b:=by
 have h1:=Z2z (by omega) ha;have h2:=Z3q hb (by omega);have h3:B ^ a.length≤B ^ (b.length - 1):=Nat.pow_le_pow_right (by omega) (by omega);omega
theorem Nm.len_le {l:List Nat}{k:Nat}(hB:1<B)(h:Nm B l)(hk:val B l<B ^ k):l.length≤k:=by
 rcases Nat.lt_or_ge k l.length with h0|h0
 · have h1:=Z3q h (by omega);have h2:B ^ k≤B ^ (l.length - 1):=Nat.pow_le_pow_right (by omega) (by omega);omega
 · exact h0
theorem Z2j {a b:List Nat}(hB:0<B)(hl:a.length=b.length)(ha:Ds B a){i:Nat}(hi:i<a.length)(hd:a.drop (i+1)=b.drop (i+1))(hlt:a.getD i 0<b.getD i 0):val B a<val B b:=by
 rw[Z1p a (i+1),Z1p b (i+1),hd,←hl];refine Nat.add_lt_add_right ?_ _;rw[Z06,Z06];have h1:=Z2z hB (ha.take i);rw[List.length_take,Nat.min_eq_left (by omega)]at h1;have h2:a.getD i 0+1≤b.getD i 0:=hlt;have h3:=Nat.mul_le_mul_left (B ^ i) h2;rw[Nat.mul_add]at h3;omega
theorem Nm.inj {a b:List Nat}(hB:1<B)(ha:Nm B a)(hb:Nm B b)(h:val B a=val B b):a=b:=by
 have hl:a.length=b.length:=by
  rcases Nat.lt_trichotomy a.length b.length with h1|h1|h1
  · have:=Nm.lt_of_len hB ha.1 hb h1;omega
  · exact h1
  · have:=Nm.lt_of_len hB hb.1 ha h1;omega
 have key:∀n,n≤a.length→a.drop (a.length - n)=b.drop (a.length - n):=by
  intro n
  induction n with
  |zero=>intro _;rw[List.drop_of_length_le (by omega),List.drop_of_length_le (by omega)]
  |succ n ih=>
   intro hn;have e:=ih (by omega);have h1:a.length - (n+1)<a.length:=(by omega);have e1:a.length - (n+1)+1=a.length - n:=by omega
   have hg:a.getD (a.length - (n+1)) 0=b.getD (a.length - (n+1)) 0:=by
    rcases Nat.lt_trichotomy (a.getD (a.length - (n+1)) 0) (b.getD (a.length - (n+1)) 0)with h2|h2|h2
    · have:=Z2j (by omega) hl ha.1 h1 (by rw[e1];exact e) h2;omega
    · exact h2
    · have:=Z2j (by omega) hl.symm hb.1 (by omega) (by rw[e1];exact e.symm) h2;omega
   have h1b:a.length - (n+1)<b.length:=(by omega);rw[Zg,Zg,Zi h1,Zi h1b]at hg;rw[List.drop_eq_getElem_cons h1,List.drop_eq_getElem_cons h1b,e1,e];simp only[Option.getD_some]at hg;rw[hg]
 have:=key a.length (Zh _);simpa using this
def Z0f:List Nat→List Nat
 | []=> []
 |d::l=>if Z0f l= []∧d=0 then []else d::Z0f l
theorem Z5k:∀l:List Nat,val B (Z0f l)=val B l
 | []=>rfl
 |d::l=>by
  have ih:=Z5k l;rw[Z0f]
  split
  ·
   rename_i h
   rw[h.1]at ih;have h0:val B l=0:=ih.symm;simp[val,h0,h.2]
  · rw[val,val,ih]
theorem Z6t:∀ {l:List Nat},Ds B l→Nm B (Z0f l)
 | [],_=>Nm.nil
 |d::l,h=>by
  have ih:=Z6t (l:=l) (fun x hx=>h x (by simp[hx]));rw[Z0f]
  split
  · exact Nm.nil
  ·
   rename_i hn
   refine⟨fun x hx=> ?_, ?_⟩
   ·
    rcases List.mem_cons.1 hx with e|e
    · subst e;exact h _ (by simp)
    · exact ih.1 x e
   ·
    by_cases he:Z0f l= []
    · rw[he];have:d≠0:=fun e=>hn ⟨he,e⟩;simpa using this
    ·
     have h2:=ih.2;cases ht:Z0f l with
     |nil=>exact absurd ht he
     |cons x t=>rw[ht]at h2;rw[List.getLast?_cons_cons];exact h2
theorem Z90 (l:List Nat):Z0f (l++ [0])=Z0f l:=by
 induction l with
 |nil=>simp[Z0f]
 |cons d l ih=>rw[List.cons_append,Z0f,Z0f,ih]
theorem Z6u (l:List Nat)(d:Nat)(hd:d≠0):Z0f (l++ [d])=l++ [d]:=by
 induction l with
 |nil=>simp[Z0f,hd]
 |cons x l ih=>rw[List.cons_append,Z0f,ih,if_neg (by simp)]
theorem Z36:∀l:List Nat,Z0f l=l.take (Z0f l).length
 | []=>rfl
 |d::l=>by
  rw[Z0f]
  split
  · simp
  · rw[List.length_cons,List.take_succ_cons,←Z36 l]
end
def W32:Nat:=4294967296
def uc (l:List Nat):List Value:=l.map fun d=>Value.int .u32 (d:Nat)
theorem Z37 (l:List Nat):(uc l).length=l.length:=by simp[uc]
theorem Z6a (l:List Nat)(k:Nat)(h:k<l.length):(uc l)[k]? =some (.int .u32 (l.getD k 0:Nat)):=by
 simp[uc,List.getD_eq_getElem?_getD,h]
theorem Zco (a b:List Nat):uc (a++b)=uc a++uc b:=by simp[uc]
theorem Z4y (l:List Nat)(i d:Nat):uc (l.set i d)=(uc l).set i (.int .u32 (d:Nat)):=by simp[uc,List.map_set]
def Z09 (w:World)(v:Value)(n:Nat):Prop:=∃A c l,v= .slice A l.length c∧Rd w A (uc l)∧Nm W32 l∧val W32 l=n
theorem Z09.below {w w':World}{v:Value}{n:Nat}(h:Z09 w v n)(hb:Below w.heap.size w w'):Z09 w' v n:=by
 obtain⟨A,c,l,e,h,k⟩:=h;exact⟨A,c,l,e,h.below hb,k⟩
def Lim (k n:Nat):Prop:=n<W32 ^ k
theorem Lim.mono {k m n:Nat}(h:Lim k n)(hk:k≤m):Lim m n:=Nat.lt_of_lt_of_le h (Nat.pow_le_pow_right (by decide) hk)
theorem Lim.le {k m n:Nat}(h:Lim k n)(hm:m≤n):Lim k m:=Nat.lt_of_le_of_lt hm h
theorem Lim.len {k:Nat}{l:List Nat}(h:Nm W32 l)(hk:Lim k (val W32 l)):l.length≤k:=h.len_le (by decide) hk
theorem Lim.mul {j k m n:Nat}(h:Lim j m)(g:Lim k n):Lim (j+k) (m*n):=by
 unfold Lim at*;rw[Nat.pow_add];exact Nat.mul_lt_mul'' h g
theorem Lim.add {j k m n:Nat}(h:Lim j m)(g:Lim k n):Lim (max j k+1) (m+n):=by
 have h1:=h.mono (Nat.le_max_left j k);have g1:=g.mono (Nat.le_max_right j k);unfold Lim at*;rw[Nat.pow_succ];have:2*W32 ^ (max j k)≤W32 ^ (max j k)*W32:=by rw[Nat.mul_comm];exact Nat.mul_le_mul_left _ (by decide)
 omega
section
variable {B:Nat}
theorem fill_set {α:Type}(p:List α)(m:Nat)(z d:α):(p++List.replicate (m+1) z).set p.length d=p++ [d]++List.replicate m z:=by
 rw[List.set_append_right _ _ (Zh _),Nat.sub_self,List.replicate_succ,Zc,List.append_assoc,List.singleton_append]
theorem Z91:∀(o:List Nat) (k d:Nat),k<o.length→val B (o.set k d)+B ^ k*o.getD k 0=val B o+B ^ k*d
 | [],k,d,h=>by simp at h
 |x::o,0,d,_=>by simp[val];omega
 |x::o,k+1,d,h=>by have ih:=Z91 o k d (by simpa using h);simp only[Zd,val,List.getD_cons_succ,Nat.pow_succ];rw[Nat.mul_comm (B ^ k) B,Nat.mul_assoc,Nat.mul_assoc,Nat.add_assoc,Nat.add_assoc,←Nat.mul_add,←Nat.mul_add,ih]
theorem Z11 (i s:Nat):B ^ i*(s % B)+B ^ (i+1)*(s / B)=B ^ i*s:=by
 rw[Nat.pow_succ,Nat.mul_assoc,←Nat.mul_add,Nat.mod_add_div]
theorem Z6v {a b p:List Nat}{i c:Nat}(hp:p.length=i)(h:val B p+B ^ i*c=val B (a.take i)+val B (b.take i)):
  val B (p++ [(c+a.getD i 0+b.getD i 0) % B])+B ^ (i+1)*((c+a.getD i 0+b.getD i 0) / B)=val B (a.take (i+1))+val B (b.take (i+1)):=by
 rw[Z0v,hp,Nat.add_assoc,Z11,Z06,Z06,Nat.mul_add,Nat.mul_add];omega
theorem carry_le {a b:List Nat}{i c:Nat}(hB:0<B)(ha:Ds B a)(hb:Ds B b)(hc:c≤1):c+a.getD i 0+b.getD i 0<2*B∧(c+a.getD i 0+b.getD i 0) / B≤1:=by
 have h1:=ha.getD hB i;have h2:=hb.getD hB i;refine⟨by omega, ?_⟩;have:(c+a.getD i 0+b.getD i 0) / B<2:=Nat.div_lt_of_lt_mul (by rw[Nat.mul_comm];omega);omega
theorem Z9v {a b p:List Nat}{i c d c':Nat}(hp:p.length=i)(h:val B p+val B (b.take i)=val B (a.take i)+B ^ i*c)
  (hd:d+b.getD i 0+c=a.getD i 0+B*c'):
  val B (p++ [d])+val B (b.take (i+1))=val B (a.take (i+1))+B ^ (i+1)*c':=by
 rw[Z0v,hp,Z06,Z06,Nat.pow_succ,Nat.mul_assoc];have:=congrArg (B ^ i* ·) hd;simp only[Nat.mul_add]at this;omega
theorem Z9w {a b o:List Nat}{i j c V:Nat}(hk:i+j<o.length)(h:val B o+B ^ (i+j)*c=V+B ^ i*(a.getD i 0*val B (b.take j))):
  val B (o.set (i+j) ((c+(a.getD i 0*b.getD j 0+o.getD (i+j) 0)) % B))+B ^ (i+j+1)*((c+(a.getD i 0*b.getD j 0+o.getD (i+j) 0)) / B)=V+B ^ i*(a.getD i 0*val B (b.take (j+1))):=by
 have h3:B ^ i*(a.getD i 0*(B ^ j*b.getD j 0))=B ^ (i+j)*(a.getD i 0*b.getD j 0):=by rw[Nat.pow_add,Nat.mul_left_comm (a.getD i 0),←Nat.mul_assoc]
 generalize hs:c+(a.getD i 0*b.getD j 0+o.getD (i+j) 0)=s;have h1:=Z91 (B:=B) o (i+j) (s % B) hk;have h2:=Z11 (B:=B) (i+j) s;have h4:B ^ (i+j)*s=B ^ (i+j)*c+(B ^ (i+j)*(a.getD i 0*b.getD j 0)+B ^ (i+j)*o.getD (i+j) 0):=by rw[←hs,Nat.mul_add,Nat.mul_add]
 rw[Z06,Nat.mul_add,Nat.mul_add,h3];omega
theorem Z6c {B x y c o:Nat}(hx:x<B)(hy:y<B)(hc:c<B)(ho:o<B):c+(x*y+o)<B*B∧(c+(x*y+o)) / B<B:=by
 have h1:x*y≤(B - 1)*(B - 1):=Nat.mul_le_mul (by omega) (by omega);have h2:(B - 1)*(B - 1)+(B - 1)+(B - 1)<B*B:=by obtain⟨k,rfl⟩:∃k,B=k+1:=⟨B - 1,by omega⟩;simp only[Nat.add_sub_cancel];rw[Nat.add_mul,Nat.mul_add];omega
 have h3:c+(x*y+o)<B*B:=by omega
 exact⟨h3,Nat.div_lt_of_lt_mul h3⟩
theorem mul_last {a b o:List Nat}{i c V:Nat}(hk:i+b.length<o.length)(h0:o.getD (i+b.length) 0=0)
  (h:val B o+B ^ (i+b.length)*c=V+B ^ i*(a.getD i 0*val B (b.take b.length))):
  val B (o.set (i+b.length) c)=V+B ^ i*(a.getD i 0*val B b):=by
 have h1:=Z91 (B:=B) o (i+b.length) c hk;rw[h0,List.take_length]at*;omega
theorem mul_row {a b:List Nat}{i V:Nat}(h:V=val B (a.take i)*val B b):V+B ^ i*(a.getD i 0*val B b)=val B (a.take (i+1))*val B b:=by
 rw[Z06,Nat.add_mul,h,Nat.mul_assoc]
theorem Zcp {a b o:List Nat}{i c:Nat}(hk:i+b.length<o.length)(h0:o.getD (i+b.length) 0=0)
  (h:val B o+B ^ (i+b.length)*c=val B (a.take i)*val B b+B ^ i*(a.getD i 0*val B (b.take b.length))):
  val B (o.set (i+b.length) c)+B ^ (i+1+0)*0=val B (a.take (i+1))*val B b+B ^ (i+1)*(a.getD (i+1) 0*val B (b.take 0)):=by
 rw[mul_last hk h0 h,mul_row rfl];simp[val]
theorem Zcq {a q:List Nat}{i r b:Nat}(hi:i<a.length)(hq:val B (a.drop (i+1))=val B q*b+r):
  val B (a.drop i)=val B ((r*B+a.getD i 0) / b::q)*b+(r*B+a.getD i 0) % b:=by
 rw[List.drop_eq_getElem_cons hi,val,hq,val,Zg,Zi hi];simp only[Option.getD_some];have h1:=Nat.div_add_mod (r*B+a[i]) b;rw[Nat.add_mul,Nat.mul_comm ((r*B+a[i]) / b) b,Nat.mul_add,Nat.mul_comm r B]at*;rw[Nat.mul_assoc];omega
theorem Zcr {B r b x:Nat}(hr:r<b)(hx:x<B):(r*B+x) / b<B:=by
 refine Nat.div_lt_of_lt_mul ?_;have:(r+1)*B≤b*B:=Nat.mul_le_mul_right B hr;rw[Nat.add_mul]at this;omega
theorem Z5l {V q b r:Nat}(h:V=q*b+r)(hr:r<b):V / b=q∧V % b=r:=by
 subst h;refine⟨?_, ?_⟩
 · rw[Nat.mul_comm,Nat.mul_add_div (by omega),Nat.div_eq_of_lt hr,Nat.add_zero]
 · rw[Nat.mul_comm,Nat.mul_add_mod,Nat.mod_eq_of_lt hr]
theorem left_step {a p:List Nat}{i c m:Nat}(hp:p.length=i)(h:val B p+B ^ i*c=val B (a.take i)*m):
  val B (p++ [(a.getD i 0*m+c) % B])+B ^ (i+1)*((a.getD i 0*m+c) / B)=val B (a.take (i+1))*m:=by
 rw[Z0v,hp,Nat.add_assoc,Z11,Z06,Nat.add_mul,Nat.mul_add,←h,Nat.mul_assoc];omega
theorem est_ge {n U V top t:Nat}(ht:0<t)(hU:U<(top+1)*B ^ n)(hV:t*B ^ n≤V)(hB:0<B):U / V≤top / t:=by
 have hp:0<B ^ n:=Nat.pow_pos hB;have hV0:0<V:=Nat.lt_of_lt_of_le (Nat.mul_pos ht hp) hV;have h1:U / V*V≤U:=Nat.div_mul_le_self U V;have h2:U / V*(t*B ^ n)≤U / V*V:=Nat.mul_le_mul_left _ hV;have h3:(U / V*t)*B ^ n<(top+1)*B ^ n:=by rw[Nat.mul_assoc];omega
 have h4:U / V*t<top+1:=Nat.lt_of_mul_lt_mul_right h3;exact(Nat.le_div_iff_mul_le ht).2 (by omega)
theorem dif_step {u v p:List Nat}{i q C c d c':Nat}(hp:p.length=i)(h:val B p+q*val B (v.take i)=val B (u.take i)+B ^ i*(c+C))
  (hd:d+(C+q*v.getD i 0) % B+c=u.getD i 0+B*c'):
  val B (p++ [d])+q*val B (v.take (i+1))=val B (u.take (i+1))+B ^ (i+1)*(c'+(C+q*v.getD i 0) / B):=by
 rw[Z0v,hp,Z06,Z06];have h2:=Z11 (B:=B) i (C+q*v.getD i 0);have h3:=congrArg (B ^ i* ·) hd;simp only[Nat.mul_add]at h3 h2 h⊢;have h4:B ^ (i+1)*c'=B ^ i*(B*c'):=by rw[Nat.pow_succ,Nat.mul_assoc]
 rw[Nat.mul_left_comm q,h4];omega
end
def isD (b:UInt8):Bool:=decide (48≤b.toNat) && decide (b.toNat≤57)
def Z0e (l:List UInt8):Nat:=l.foldl (fun n b=>n*10+(b.toNat - 48)) 0
theorem Z1q (l:List UInt8)(b:UInt8):Z0e (l++ [b])=Z0e l*10+(b.toNat - 48):=by simp[Z0e]
theorem Z9x:∀(l:List UInt8) (acc:Nat),l.all isD=true→Lib.decFrom acc l=some (l.foldl (fun n b=>n*10+(b.toNat - 48)) acc)
 | [],acc,_=>rfl
 |b::r,acc,h=>by simp only[List.all_cons,Bool.and_eq_true]at h;have hb:Lib.digitVal b=some (b.toNat - 48):=(by unfold Lib.digitVal;rw[if_pos];simpa [isD]using h.1);rw[Lib.decFrom,hb,List.foldl_cons];exact Z9x r _ h.2
theorem atoi_val {l:List UInt8}(hn:l≠ [])(h:l.all isD=true):Lib.atoi l=some (Z0e l:Int):=by
 cases l with
 |nil=>exact absurd rfl hn
 |cons b r=>
  have hb:isD b=true:=by simp only[List.all_cons,Bool.and_eq_true]at h;exact h.1
  have h45:(b==45)=false:=by rw[beq_eq_false_iff_ne];intro e;subst e;revert hb;decide
  have h43:(b==43)=false:=by rw[beq_eq_false_iff_ne];intro e;subst e;revert hb;decide
  unfold Lib.atoi;simp only[h45,h43,Bool.false_eq_true,if_false];unfold Lib.decNat;rw[if_neg (by simp),Z9x _ _ h];rfl
theorem Z6d {b:UInt8}(h:isD b=true):48≤b.toNat∧b.toNat≤57:=by
 simpa [isD]using h
theorem Z3h (x:List UInt8):∀(n:Nat) (y:List UInt8),y.length=n→Z0e (x++y)=Z0e x*10 ^ n+Z0e y
 |0,y,hn=>by rw[Zk hn];simp[Z0e]
 |n+1,y,hn=>by have hne:y≠ []:=fun e=>(by rw[e]at hn;simp at hn);rw[←List.dropLast_concat_getLast hne,←List.append_assoc,Z1q,Z1q,Z3h x n y.dropLast (by simp[hn]),Nat.pow_succ,Nat.add_mul,Nat.mul_assoc];omega
theorem Z4p:∀(n:Nat) (l:List UInt8),l.length=n→l.all isD=true→Z0e l<10 ^ n
 |0,l,hn,_=>by rw[Zk hn];simp[Z0e]
 |n+1,l,hn,h=>by have hne:l≠ []:=fun e=>(by rw[e]at hn;simp at hn);rw[←List.dropLast_concat_getLast hne]at h⊢;rw[List.all_append,Bool.and_eq_true]at h;have ih:=Z4p n l.dropLast (by simp[hn]) h.1;have hb:=Z6d (b:=l.getLast hne) (by simpa using h.2);rw[Z1q,Nat.pow_succ];omega
theorem Z9y {l:List UInt8}(h:l.all isD=true)(n:Nat):(l.take n).all isD=true:=by
 rw[List.all_eq_true]at h⊢;exact fun x hx=>h x (List.mem_of_mem_take hx)
theorem Z6w {l:List UInt8}(h:l.all isD=true)(n:Nat):(l.drop n).all isD=true:=by
 rw[List.all_eq_true]at h⊢;exact fun x hx=>h x (List.mem_of_mem_drop hx)
theorem Z7s {k:Nat}(h:k<10):(UInt8.ofNat (48+k)).toNat=48+k:=by
 rw[UInt8.toNat_ofNat'];omega
theorem Z1d:∀(u:Nat),(Lib.decDigits u).all isD=true∧Z0e (Lib.decDigits u)=u∧(Lib.decDigits u).length≠0∧((Lib.decDigits u).head? =some 48→u=0):=by
 intro u
 induction u using Nat.strongRecOn with
 |_ u ih=>
  rw[Lib.decDigits]
  split
  ·
   rename_i h
   have h1:=Z7s h;generalize UInt8.ofNat (48+u)=b at*;refine⟨by simp[isD,h1];omega,by simp[Z0e,h1],by simp, ?_⟩;intro h2;injection h2 with h2;subst h2;have h4:(48:UInt8).toNat=48:=rfl;omega
  ·
   rename_i h
   obtain⟨a1,a2,a3,a4⟩:=ih (u / 10) (by omega);have h1:(UInt8.ofNat (48+u % 10)).toNat=48+u % 10:=Z7s (by omega);generalize UInt8.ofNat (48+u % 10)=b at*;refine⟨?_, ?_,by simp, ?_⟩
   · rw[List.all_append,a1];simp[isD,h1];omega
   · rw[Z1q,a2,h1];omega
   ·
    intro h2
    have h3:(Lib.decDigits (u / 10)).head? =some 48:=by
     cases hd:Lib.decDigits (u / 10)with
     |nil=>rw[hd]at a3;simp at a3
     |cons x r=>rw[hd]at h2;simpa using h2
    have:=a4 h3;omega
theorem Z3s:∀(k u:Nat),1≤k→u<10 ^ k→(Lib.decDigits u).length≤k
 |0,_,h,_=>by omega
 |1,u,_,h=>by rw[Lib.decDigits,dif_pos (by omega)];simp
 |k+2,u,_,h=>by
  rw[Lib.decDigits]
  split
  · simp
  · rw[Zj];have h1:u / 10<10 ^ (k+1):=(by rw[Nat.div_lt_iff_lt_mul (by omega)];rw[Nat.pow_succ]at h;exact h);have:=Z3s (k+1) (u / 10) (by omega) h1;simp;omega
def NoZ (l:List UInt8):Prop:=l≠ []∧(l.head? =some 48→l= [48])
theorem Z5m:∀(n:Nat) (l:List UInt8),l.length=n→l.all isD=true→NoZ l→Lib.decDigits (Z0e l)=l
 |0,l,hn,_,hz=>absurd (Zk hn) hz.1
 |n+1,l,hn,h,hz=>by
  have hne:l≠ []:=hz.1;obtain⟨p,b,rfl⟩:∃p b,l=p++ [b]:=⟨l.dropLast,l.getLast hne,(List.dropLast_concat_getLast hne).symm⟩;rw[List.all_append,Bool.and_eq_true]at h;have hb:=Z6d (b:=b) (by simpa using h.2);have e1:UInt8.ofNat (48+(b.toNat - 48))=b:=by rw[show 48+(b.toNat - 48)=b.toNat by omega];exact UInt8.ofNat_toNat
  rw[Z1q];cases p with
  |nil=>
   rw[Lib.decDigits,dif_pos (by simp[Z0e];omega)];simp only[Z0e,List.foldl_nil,Nat.zero_mul,Nat.zero_add,List.nil_append,e1]
  |cons a p=>
   have hz2:NoZ (a::p):=(by refine⟨by simp,fun e=> ?_⟩;have:=hz.2 (by simpa using e);simp at this);have ih:=Z5m n (a::p) (by simp at hn⊢;omega) h.1 hz2
   have hpos:1≤Z0e (a::p):=by
    rcases Nat.eq_zero_or_pos (Z0e (a::p))with h0|h0
    · rw[h0]at ih;rw[Lib.decDigits,dif_pos (by omega)]at ih;have:a=48:=(by injection ih with i1 i2;exact i1.symm);subst this;have:=hz.2 (by simp);simp at this
    · exact h0
   rw[Lib.decDigits,dif_neg (by omega)];rw[show(Z0e (a::p)*10+(b.toNat - 48)) / 10=Z0e (a::p) by omega,show(Z0e (a::p)*10+(b.toNat - 48)) % 10=b.toNat - 48 by omega,ih,e1]
def sgT (s:ByteArray):Bool:=Lib.hasPrefix s.data.toList [45]
def boT (s:ByteArray):List UInt8:=Lib.trimPrefix s.data.toList [45]
def Z6x (s:ByteArray):Int:=if sgT s=true then -(Z0e (boT s):Int)else(Z0e (boT s):Int)
theorem Z2t (s:ByteArray):(Z6x s).natAbs=Z0e (boT s):=by unfold Z6x;split<;>omega
theorem Z9z (s:ByteArray):decide (Z6x s<0)=(sgT s && decide (0<Z0e (boT s))):=by
 unfold Z6x;cases sgT s
 · simp
 · simp
theorem Zcs (s:ByteArray):(boT s).length≤s.size:=by
 unfold boT Lib.trimPrefix
 split
 · rw[List.length_drop];show s.data.size - _≤s.data.size;omega
 · exact Zh _
def noZ (l:List UInt8):Bool:=l.all isD && (decide (l= [48])||(!l.isEmpty && !decide (l.head? =some 48)))
theorem Z0p (l:List UInt8):noZ l=true↔l.all isD=true∧NoZ l:=by
 unfold noZ NoZ;cases l with
 |nil=>simp
 |cons x l=>
  simp only[Bool.and_eq_true,Bool.or_eq_true,decide_eq_true_eq,List.isEmpty_cons,Bool.not_false,true_and,List.head?_cons,Option.some.injEq,Bool.not_eq_true',decide_eq_false_iff_not];constructor
  ·
   rintro⟨h1,h2⟩;refine⟨h1,by simp,fun e=> ?_⟩;rcases h2 with h2|h2
   · exact h2
   · exact absurd e h2
  ·
   rintro⟨h1,_,h3⟩;refine⟨h1, ?_⟩;by_cases e:x=48
   · exact .inl (h3 e)
   · exact .inr e
theorem Zct {l:List UInt8}(h:noZ l=true)(h0:l≠ [48]):0<Z0e l:=by
 obtain⟨h1,h2⟩:=(Z0p l).1 h;rcases Nat.eq_zero_or_pos (Z0e l)with e|e
 ·
  have:=Z5m _ l rfl h1 h2;rw[e]at this
  exact absurd this.symm (by
   intro e2;apply h0;rw[e2,Lib.decDigits,dif_pos (by omega)];rfl)
 · exact e
theorem Z6y {l:List UInt8}(h:l.all isD=false):noZ l=false:=by unfold noZ;rw[h];rfl
theorem Za0 {l:List UInt8}(h:l.head? =some 48)(h1:l≠ [48]):noZ l=false:=by
 unfold noZ;rw[decide_eq_false h1,decide_eq_true h];cases l.all isD<;>cases l.isEmpty<;>rfl
theorem noZ_ok {l:List UInt8}(h:l.all isD=true)(h1:l≠ [])(h2:l.head? ≠some 48):noZ l=true:=by
 unfold noZ;rw[h,decide_eq_false h2];cases l with
 |nil=>exact absurd rfl h1
 |cons x l=>simp
theorem Zcu:noZ []=false:=rfl
theorem Z6z (s:ByteArray)(k:Nat)(h:k<s.size):(s.data.toList.take (k+1)).all isD=((s.data.toList.take k).all isD && isD s[k]):=by
 have h1:k<s.data.toList.length:=by rw[Zo];exact h
 rw[List.take_succ_eq_append_getElem h1,List.all_append];simp only[List.all_cons,List.all_nil,Bool.and_true,Array.getElem_toList];rfl
theorem Z5n (s:ByteArray)(k:Nat)(h:k<s.size)(hb:isD s[k]=false):s.data.toList.all isD=false:=by
 cases hh:s.data.toList.all isD
 · rfl
 · have h1:k<s.data.toList.length:=(by rw[Zo];exact h);have:=List.all_eq_true.1 hh s.data.toList[k] (Zn h1);rw[Array.getElem_toList]at this;have e:isD s[k]=true:=this;rw[hb]at e;cases e
theorem Zcv {l:List UInt8}(h:noZ l=true):(Lib.decDigits (Z0e l)).length=l.length:=by
 obtain⟨h1,h2⟩:=(Z0p l).1 h;rw[Z5m _ l rfl h1 h2]
def Z8x (s d:ByteArray):Bool:=noZ (boT s) && !(sgT s && decide (boT s= [48])) && noZ d.data.toList && !decide (d.data.toList= [48])
def Z2h (s d:ByteArray):Int:=
 if Z8x s d=false then 3 else if 2000<(boT s).length∨2000<d.data.toList.length then 2 else if Nat.gcd (Z0e (boT s)) (Z0e d.data.toList)=1 then 0 else 3
structure RatR (s d:ByteArray):Prop where
 nz:noZ (boT s)=true
 dz:noZ d.data.toList=true
 p:0<Z0e d.data.toList
 z:sgT s=true→0<Z0e (boT s)
 nl:(boT s).length≤2000
 dl:d.data.toList.length≤2000
 g:Nat.gcd (Z0e (boT s)) (Z0e d.data.toList)=1
theorem Z92 {s d:ByteArray}(h:Z8x s d=true):noZ (boT s)=true∧noZ d.data.toList=true∧0<Z0e d.data.toList∧(sgT s=true→0<Z0e (boT s)):=by
 unfold Z8x at h;simp only[Bool.and_eq_true,Bool.not_eq_true',Bool.and_eq_false_iff,decide_eq_false_iff_not]at h;obtain⟨⟨⟨h1,h2⟩,h3⟩,h4⟩:=h;refine⟨h1,h3,Zct h3 h4,fun hs=> ?_⟩;rcases h2 with h2|h2
 · rw[hs]at h2;cases h2
 · exact Zct h1 h2
theorem Z3t {s d:ByteArray}(h:Z2h s d=0):RatR s d:=by
 unfold Z2h at h
 split at h
 · omega
 ·
  rename_i h1
  split at h
  · omega
  ·
   rename_i h2
   split at h
   ·
    rename_i h3
    obtain⟨a,b,c,e⟩:=Z92 (s:=s) (d:=d) (by simpa using h1);exact⟨a,b,c,e,by omega,by omega,h3⟩
   · omega
abbrev bL:=Op.bytesLess
theorem bL_irr:∀x:List UInt8,bL x x=false
 | []=>rfl
 |a::x=>by show(decide (a<a)||(a==a && bL x x))=false;rw[bL_irr x];simp
theorem Za1:∀ {x y z:List UInt8},bL x y=true→bL y z=true→bL x z=true
 |_,[],_,h,_=>by simp[bL,Op.bytesLess]at h
 |_,_::_,[],_,h=>by simp[bL,Op.bytesLess]at h
 | [],_::_,_::_,_,_=>rfl
 |a::x,b::y,c::z,h1,h2=>by
  simp only[bL,Op.bytesLess,Bool.or_eq_true,Bool.and_eq_true,decide_eq_true_eq,beq_iff_eq]at h1 h2⊢;rcases h1 with h1|⟨rfl,h1⟩
  ·
   rcases h2 with h2|⟨rfl,h2⟩
   · exact .inl (UInt8.lt_trans h1 h2)
   · exact .inl h1
  ·
   rcases h2 with h2|⟨rfl,h2⟩
   · exact .inl h2
   · exact .inr ⟨rfl,Za1 (x:=x) (y:=y) (z:=z) h1 h2⟩
theorem bL_tri:∀(x y:List UInt8),bL x y=true∨x=y∨bL y x=true
 | [],[]=> .inr (.inl rfl)
 | [],_::_=> .inl rfl
 |_::_,[]=> .inr (.inr rfl)
 |a::x,b::y=>by
  simp only[bL,Op.bytesLess,Bool.or_eq_true,Bool.and_eq_true,decide_eq_true_eq,beq_iff_eq,List.cons.injEq];by_cases h1:a<b
  · exact .inl (.inl h1)
  ·
   by_cases h2:b<a
   · exact .inr (.inr (.inl h2))
   ·
    have e:a=b:=(by rw[UInt8.lt_iff_toNat_lt]at h1 h2;exact UInt8.toNat.inj (by omega));subst e;rcases bL_tri x y with h|h|h
    · exact .inl (.inr ⟨rfl,h⟩)
    · exact .inr (.inl ⟨rfl,h⟩)
    · exact .inr (.inr (.inr ⟨rfl,h⟩))
theorem Z93:∀(x y:List UInt8),Lib.compareBytes x y=if bL x y=true then -1 else if x=y then 0 else 1
 | [],[]=>rfl
 | [],_::_=>rfl
 |_::_,[]=>rfl
 |a::x,b::y=>by
  have ih:=Z93 x y;rw[Lib.compareBytes];simp only[bL,Op.bytesLess,Bool.or_eq_true,Bool.and_eq_true,decide_eq_true_eq,beq_iff_eq,List.cons.injEq];by_cases h1:a<b
  · simp[h1]
  ·
   by_cases h2:b<a
   · have h3:¬a=b:=fun e=>(by subst e;exact h1 h2);simp[h1,h2,h3]
   · have e:a=b:=(by rw[UInt8.lt_iff_toNat_lt]at h1 h2;exact UInt8.toNat.inj (by omega));subst e;simp only[h1,if_false,ih,false_or,true_and]
def sLt (a b:ByteArray):Prop:=bL a.data.toList b.data.toList=true
instance(a b:ByteArray):Decidable (sLt a b):=inferInstanceAs (Decidable (_=true))
theorem Z2f (a:ByteArray):¬sLt a a:=by unfold sLt;rw[bL_irr];simp
theorem Z7t {a b c:ByteArray}(h:sLt a b)(k:sLt b c):sLt a c:=Za1 h k
theorem Z1w {a b:ByteArray}(h:a.data.toList=b.data.toList):a=b:=by
 cases a;cases b;simp at h;congr 1
theorem Z70 (a b:ByteArray):sLt a b∨a=b∨sLt b a:=by
 rcases bL_tri a.data.toList b.data.toList with h|h|h
 · exact .inl h
 · exact .inr (.inl (Z1w h))
 · exact .inr (.inr h)
theorem Z3z {a b:ByteArray}(h:sLt a b):¬sLt b a:=fun k=>Z2f a (Z7t h k)
def Z71 (a b:ByteArray):Int:=Lib.compareBytes a.data.toList b.data.toList
structure Pnt where
 at_:Int
 n:ByteArray
 d:ByteArray
structure Cli where
 m:ByteArray
 ch:Int
 fr:Int
 tr:Int
 at_:Int
 ln:Int
 e:List Pnt
structure Edt where
 rate:Int
 tracks:Int
 cs:List Cli
def Z0j:Pnt:=⟨0,⟨#[]⟩,⟨#[]⟩⟩
def Z1g:Cli:=⟨⟨#[]⟩,0,0,0,0,0,[]⟩
def Z3i (ln:Int)(e:List Pnt)(i:Nat):Int:=
 if(e.getD i Z0j).at_<0∨ln≤(e.getD i Z0j).at_ then 1 else if 0<i∧(e.getD i Z0j).at_≤(e.getD (i - 1) Z0j).at_ then 8
 else if Z2h (e.getD i Z0j).n (e.getD i Z0j).d≠0 then Z2h (e.getD i Z0j).n (e.getD i Z0j).d
 else if 40<(boT (e.getD i Z0j).n).length∨40<(e.getD i Z0j).d.data.toList.length then 2 else 0
def Z3r (ln:Int)(e:List Pnt):Int:=if e.length=0 then 9 else if 50<e.length then 2 else Z1c (Z3i ln e) e.length
def cliR (tracks:Int)(c:Cli):Bool:=decide ((0≤c.ch∧c.ch<16)∧(0≤c.fr∧c.fr≤10000000000000)∧(0≤c.tr∧c.tr<tracks)∧(0≤c.at_∧c.at_<100000)∧(1≤c.ln∧c.ln≤100000 - c.at_)∧c.fr+c.ln≤10000000000000)
def Z3n (nm:ByteArray→Bool)(tracks:Int)(c:Cli):Int:=if nm c.m=false then 5 else if cliR tracks c=false then 1 else Z3r c.ln c.e
def Z1x (x y:Int):Int:=if x<y then -1 else if y<x then 1 else 0
def orZ:List Int→Int
 | []=>0
 |x::l=>if x=0 then orZ l else x
def Z14 (a b:Cli):Int:=orZ [Z1x a.tr b.tr,Z1x a.at_ b.at_,Z71 a.m b.m,Z1x a.ch b.ch,Z1x a.fr b.fr,Z1x a.ln b.ln]
theorem Z2c (a b:ByteArray):Z71 a b=if sLt a b then -1 else if a=b then 0 else 1:=by
 by_cases h1:sLt a b
 · rw[if_pos h1];have h2:bL a.data.toList b.data.toList=true:=h1;unfold Z71;rw[Z93,if_pos h2]
 ·
  rw[if_neg h1];have h2:¬bL a.data.toList b.data.toList=true:=h1;unfold Z71;rw[Z93,if_neg h2];by_cases h3:a.data.toList=b.data.toList
  · rw[if_pos h3,if_pos (Z1w h3)]
  · rw[if_neg h3,if_neg (fun e=>h3 (by rw[e]))]
theorem Z3j (x y:Int):Z1x y x= -Z1x x y:=by
 unfold Z1x
 split
 ·
  split
  · omega
  · rfl
 · split<;>rfl
theorem Za2 (a b:ByteArray):Z71 b a= -Z71 a b:=by
 rw[Z2c,Z2c];rcases Z70 a b with h|h|h
 · rw[if_pos h,if_neg (Z3z h),if_neg (fun e=>by rw[e]at h;exact Z2f a h)];rfl
 · subst h;rw[if_neg (Z2f a),if_pos rfl];rfl
 · rw[if_pos h,if_neg (Z3z h),if_neg (fun e=>by rw[e]at h;exact Z2f b h)]
theorem Zcw:∀l:List Int,orZ (l.map fun x=> -x)= -orZ l
 | []=>rfl
 |x::l=>by
  rw[List.map_cons,orZ,orZ,Zcw l];by_cases h:x=0
  · rw[if_pos h,if_pos (by omega)]
  · rw[if_neg h,if_neg (by omega)]
theorem Z57 (a b:Cli):Z14 b a= -Z14 a b:=by
 unfold Z14;rw[Z3j a.tr b.tr,Z3j a.at_ b.at_,Za2 a.m b.m,Z3j a.ch b.ch,Z3j a.fr b.fr,Z3j a.ln b.ln,←Zcw];rfl
theorem Z17 {α:Type}(lt:α→α→Prop)[DecidableRel lt][DecidableEq α](x y:α)(c:Int)(hc:c=if lt x y then -1 else if x=y then 0 else 1)(irr:¬lt x x)(l:List Int):
  orZ (c::l)=if x=y then orZ l else if lt x y then -1 else 1:=by
 rw[orZ,hc];by_cases h:x=y
 · subst h;rw[if_neg irr,if_pos rfl,if_pos rfl,if_pos rfl]
 ·
  rw[if_neg h,if_neg h];by_cases h2:lt x y
  · rw[if_pos h2,if_neg (by decide)]
  · rw[if_neg h2,if_neg (by decide)]
theorem Z12 (x y:Int):Z1x x y=if x<y then -1 else if x=y then 0 else 1:=by
 unfold Z1x
 split
 · rfl
 ·
  split
  · rw[if_neg (by omega)]
  · rw[if_pos (by omega)]
def Za3 (nm:ByteArray→Bool)(e:Edt)(i:Nat):Int:=
 if Z3n nm e.tracks (e.cs.getD i Z1g)≠0 then Z3n nm e.tracks (e.cs.getD i Z1g)else if 0<i∧0<Z14 (e.cs.getD (i - 1) Z1g) (e.cs.getD i Z1g)then 8 else 0
def Z0y (nm:ByteArray→Bool)(mx:Int)(e:Edt):Int:=
 if ¬(1≤e.rate∧e.rate≤mx)∨e.tracks<1∨16<e.tracks then 1 else if 300<e.cs.length then 2 else Z1c (Za3 nm e) e.cs.length
def endF (cs:List Cli):Int:=cs.foldl (fun n c=>max n (c.at_+c.ln)) 0
def pntT (p:Pnt):List UInt8:= [32]++Lib.itoa p.at_++ [58]++p.n.data.toList++ [47]++p.d.data.toList
def cliT (c:Cli):List UInt8:= [99,108,105,112,32]++c.m.data.toList++ [32]++Lib.itoa c.ch++ [32]++Lib.itoa c.fr++ [32]++Lib.itoa c.tr++ [32]++Lib.itoa c.at_++ [32]++Lib.itoa c.ln++c.e.flatMap pntT++ [10]
def ediT (e:Edt):List UInt8:= [101,100,105,116,32]++Lib.itoa e.rate++ [32]++Lib.itoa e.tracks++ [10]++e.cs.flatMap cliT
def txtF (nm:ByteArray→Bool)(mx:Int)(e:Edt):List UInt8×Int:=if Z0y nm mx e≠0 then([],Z0y nm mx e)else if 500000<(ediT e).length then([],2)else(ediT e,0)
def endR (nm:ByteArray→Bool)(mx:Int)(e:Edt):Int×Int:=if Z0y nm mx e≠0 then(0,Z0y nm mx e)else(endF e.cs,0)
theorem Z2u {f:Nat→Int}:∀ {n:Nat},Z1c f n=0→∀j,j<n→f j=0:=fun {n} h=>by
 refine Classical.byContradiction fun hc=> ?_;have hex:∃k,k<n∧f k≠0:=by refine Classical.byContradiction fun hn=>hc fun j hj=> ?_;refine Classical.byContradiction fun h0=>hn ⟨j,hj,h0⟩
 obtain⟨k,hk,h0⟩:=hex
 have key:∀m,m≤n→(∀j,j<m→f j=0):=by
  intro m
  induction m with
  |zero=>intro _ j hj;omega
  |succ m ih=>
   intro hm j hj;rcases Nat.lt_or_ge j m with h1|h1
   · exact ih (by omega) j h1
   · have e:j=m:=(by omega);subst e;refine Classical.byContradiction fun h2=> ?_;have:=Z25 (ih (by omega)) h2 (show j<n by omega);rw[h]at this;exact h2 this.symm
 exact h0 (key n (Zh _) k hk)
structure PntR (ln:Int)(p:Pnt):Prop where
 a:0≤p.at_∧p.at_<ln
 r:Z2h p.n p.d=0
 n:(boT p.n).length≤40
 d:p.d.data.toList.length≤40
structure CliRt (nm:ByteArray→Bool)(tk:Int)(c:Cli):Prop where
 m:nm c.m=true
 r:(0≤c.ch∧c.ch<16)∧(0≤c.fr∧c.fr≤10000000000000)∧(0≤c.tr∧c.tr<tk)∧(0≤c.at_∧c.at_<100000)∧(1≤c.ln∧c.ln≤100000 - c.at_)∧c.fr+c.ln≤10000000000000
 e0:0<c.e.length
 e1:c.e.length≤50
 p:∀p∈c.e,PntR c.ln p
structure EdiRt (nm:ByteArray→Bool)(mx:Int)(e:Edt):Prop where
 r:1≤e.rate∧e.rate≤mx
 t:1≤e.tracks∧e.tracks≤16
 l:e.cs.length≤300
 c:∀c∈e.cs,CliRt nm e.tracks c
theorem pntF_ok {ln:Int}{e:List Pnt}{i:Nat}(h:Z3i ln e i=0):PntR ln (e.getD i Z0j):=by
 unfold Z3i at h
 split at h
 · omega
 ·
  rename_i h1
  split at h
  · omega
  ·
   split at h
   · rename_i h3;exact absurd h h3
   ·
    rename_i h3
    split at h
    · omega
    ·
     rename_i h4
     exact⟨by omega,by omega,by omega,by omega⟩
theorem Z1k {ln:Int}{e:List Pnt}(h:Z3r ln e=0):0<e.length∧e.length≤50∧∀p∈e,PntR ln p:=by
 unfold Z3r at h
 split at h
 · omega
 ·
  split at h
  · omega
  · refine⟨by omega,by omega,fun p hp=> ?_⟩;obtain⟨k,hk,rfl⟩:=List.mem_iff_getElem.1 hp;have:=pntF_ok (Z2u h k hk);rw[Zg,Zi hk]at this;exact this
theorem Z5o {nm:ByteArray→Bool}{tk:Int}{c:Cli}(h:Z3n nm tk c=0):CliRt nm tk c:=by
 unfold Z3n at h
 split at h
 · omega
 ·
  rename_i h1
  split at h
  · omega
  ·
   rename_i h2
   obtain⟨a,b,d⟩:=Z1k h;have h3:cliR tk c=true:=(by simpa using h2);unfold cliR at h3;exact⟨by simpa using h1,of_decide_eq_true h3,a,b,d⟩
theorem Z94 {nm:ByteArray→Bool}{mx:Int}{e:Edt}(h:Z0y nm mx e=0):EdiRt nm mx e:=by
 unfold Z0y at h
 split at h
 · omega
 ·
  split at h
  · omega
  ·
   refine⟨by omega,by omega,by omega,fun c hc=> ?_⟩;obtain⟨k,hk,rfl⟩:=List.mem_iff_getElem.1 hc;have h2:=Z2u h k hk;unfold Za3 at h2;rw[Zg,Zi hk,Option.getD_some]at h2
   split at h2
   · rename_i h3;exact absurd h2 h3
   ·
    rename_i h3
    exact Z5o (by simpa using h3)
theorem boT_ge (s:ByteArray):s.size≤(boT s).length+1:=by
 unfold boT Lib.trimPrefix;have hl:s.data.toList.length=s.size:=by rw[Zo];rfl
 split
 · rw[List.length_drop,hl];simp;omega
 · rw[hl];omega
theorem Z95 (n:Int)(h: -9223372036854775808≤n∧n≤9223372036854775807):(Lib.itoa n).length≤21:=Lib.itoa_length_le n h.1 h.2
theorem ba_len (s:ByteArray):s.data.toList.length=s.size:=by rw[Zo];rfl
theorem flat_le {α:Type}(f:α→List UInt8)(n:Nat):∀(l:List α),(∀x∈l,(f x).length≤n)→(l.flatMap f).length≤l.length*n
 | [],_=>by simp
 |x::l,h=>by rw[List.flatMap_cons,Zj,List.length_cons,Nat.succ_mul];have:=flat_le f n l (fun y hy=>h y (by simp[hy]));have:=h x (by simp);omega
theorem Zcx {z:Int}{d:Nat}(hd:0<d):(mkRat z d).num.natAbs=z.natAbs / Nat.gcd z.natAbs d:=by
 rw[Rat.num_mkRat,if_neg (by omega),Nat.gcd_comm];have hg:(Nat.gcd z.natAbs d:Nat)∣z.natAbs:=Nat.gcd_dvd_left _ _;have hg2:((Nat.gcd z.natAbs d:Nat):Int)∣z:=Int.natAbs_dvd_natAbs.1 (by simpa using hg);rw[Int.natAbs_ediv_of_dvd hg2,Int.natAbs_natCast]
theorem Z7u {z:Int}{d:Nat}(hd:0<d):(mkRat z d).den=d / Nat.gcd z.natAbs d:=by
 rw[Rat.den_mkRat,if_neg (by omega),Nat.gcd_comm]
theorem Za4 {z:Int}{d:Nat}(hd:0<d):((mkRat z d).num<0)↔z<0:=by
 rw[Rat.num_mkRat,if_neg (by omega)];have hg:0<d.gcd z.natAbs:=Nat.gcd_pos_of_pos_left _ hd;constructor
 ·
  intro h;rcases Int.lt_or_le z 0 with h0|h0
  · exact h0
  · have:=Int.ediv_nonneg h0 (Int.natCast_nonneg (d.gcd z.natAbs));omega
 · intro h;exact Int.ediv_neg_of_neg_of_pos h (by omega)
theorem mk_low {z:Int}{d:Nat}(hd:0<d):(mkRat z d).den=d↔Nat.gcd z.natAbs d=1:=by
 rw[Z7u hd];constructor
 · intro h;have h1:Nat.gcd z.natAbs d*(d / Nat.gcd z.natAbs d)=d:=Nat.mul_div_cancel' (Nat.gcd_dvd_right _ _);rw[h]at h1;have h2:Nat.gcd z.natAbs d*d=1*d:=(by omega);exact Nat.eq_of_mul_eq_mul_right hd h2
 · intro h;rw[h,Nat.div_one]
theorem mk_id {z:Int}{d:Nat}(hd:0<d)(hg:Nat.gcd z.natAbs d=1):(mkRat z d).num=z∧(mkRat z d).den=d:=by
 refine⟨?_,(mk_low hd).2 hg⟩;rw[Rat.num_mkRat,if_neg (by omega),Nat.gcd_comm,hg];simp
theorem Z1e (q:Rat):mkRat q.num q.den=q:=Rat.mkRat_self q
def Z0i (k:Nat)(q:Rat):Prop:=Lim k q.num.natAbs∧Lim k q.den
theorem Z0i.mono {k m:Nat}{q:Rat}(h:Z0i k q)(hk:k≤m):Z0i m q:=⟨h.1.mono hk,h.2.mono hk⟩
theorem Z0i.mk {k d:Nat}{z:Int}(h1:Lim k z.natAbs)(h2:Lim k d)(hd:0<d):Z0i k (mkRat z d):=by
 refine⟨?_, ?_⟩
 · rw[Zcx hd];exact h1.le (Nat.div_le_self _ _)
 · rw[Z7u hd];exact h2.le (Nat.div_le_self _ _)
theorem Z72 {j k:Nat}{x y:Int}(h:Lim j x.natAbs)(g:Lim k y.natAbs):Lim (max j k+1) (x+y).natAbs:=(h.add g).le (Int.natAbs_add_le _ _)
theorem Z1n {j k:Nat}{x y:Int}(h:Lim j x.natAbs)(g:Lim k y.natAbs):Lim (j+k) (x*y).natAbs:=by rw[Int.natAbs_mul];exact h.mul g
theorem Z0i.add {j k:Nat}{p q:Rat}(h:Z0i j p)(g:Z0i k q):Z0i (j+k+1) (p+q):=by
 rw[←Z1e p,←Z1e q,Rat.mkRat_add_mkRat _ _ p.den_nz q.den_nz];refine Z0i.mk ?_ ((h.2.mul g.2).mono (by omega)) (Nat.mul_pos p.den_pos q.den_pos);have h1:Lim (j+k) (p.num*q.den).natAbs:=Z1n h.1 (by simpa using g.2);have h2:Lim (j+k) (q.num*p.den).natAbs:=by rw[Nat.add_comm];exact Z1n g.1 (by simpa using h.2)
 exact(Z72 h1 h2).mono (by omega)
theorem Z0i.mul {j k:Nat}{p q:Rat}(h:Z0i j p)(g:Z0i k q):Z0i (j+k) (p*q):=by
 rw[←Z1e p,←Z1e q,Rat.mkRat_mul_mkRat];exact Z0i.mk (Z1n h.1 g.1) (h.2.mul g.2) (Nat.mul_pos p.den_pos q.den_pos)
theorem Z0i.neg {j:Nat}{p:Rat}(h:Z0i j p):Z0i j (-p):=by
 refine⟨?_, ?_⟩
 · rw[Rat.neg_num,Int.natAbs_neg];exact h.1
 · rw[Rat.neg_den];exact h.2
theorem Z0i.sub {j k:Nat}{p q:Rat}(h:Z0i j p)(g:Z0i k q):Z0i (j+k+1) (p - q):=by
 rw[Rat.sub_eq_add_neg];exact h.add g.neg
def Z07 (p:Pnt):Rat:=mkRat (Z6x p.n) (Z0e p.d.data.toList)
def Z7v (p q:Pnt)(i:Int):Rat:=Z07 p+(Z07 q - Z07 p)*mkRat (i - p.at_) (q.at_ - p.at_).toNat
def Z18 (e:List Pnt)(i:Int):Nat:=(e.takeWhile (fun p=>decide (p.at_<i))).length
def Z38 (e:List Pnt)(i:Int):Rat:=
 if Z18 e i=0 then Z07 (e.getD 0 Z0j)else if Z18 e i=e.length then Z07 (e.getD (e.length - 1) Z0j)else Z7v (e.getD (Z18 e i - 1) Z0j) (e.getD (Z18 e i) Z0j) i
def Zbk (e:List Pnt):Prop:=∀k,k+1<e.length→(e.getD k Z0j).at_<(e.getD (k+1) Z0j).at_
theorem Z4q (e:List Pnt)(i:Int):Z18 e i≤e.length:=(List.takeWhile_sublist _).length_le
theorem Z73:∀(e:List Pnt) (i:Int) (k:Nat),k<Z18 e i→(e.getD k Z0j).at_<i
 | [],i,k,h=>by simp[Z18]at h
 |p::e,i,k,h=>by
  unfold Z18 at h;rw[List.takeWhile_cons]at h
  split at h
  ·
   rename_i hp
   cases k with
   |zero=>simpa using hp
   |succ k=>exact Z73 e i k (by simpa [Z18]using h)
  · simp at h
theorem Z74:∀(e:List Pnt) (i:Int),Z18 e i<e.length→i≤(e.getD (Z18 e i) Z0j).at_
 | [],i,h=>by simp at h
 |p::e,i,h=>by
  by_cases hp:p.at_<i
  · have e1:Z18 (p::e) i=Z18 e i+1:=(by unfold Z18;rw[List.takeWhile_cons,if_pos (by simpa using hp),List.length_cons]);rw[e1]at h⊢;simpa using Z74 e i (by simpa using h)
  · have e1:Z18 (p::e) i=0:=(by unfold Z18;rw[List.takeWhile_cons,if_neg (by simpa using hp)];rfl);rw[e1];simpa using hp
theorem Z26 {e:List Pnt}{i:Int}{k:Nat}(hk:k≤e.length)(h1:∀j,j<k→(e.getD j Z0j).at_<i)(h2:k<e.length→i≤(e.getD k Z0j).at_):Z18 e i=k:=by
 have hl:=Z4q e i;rcases Nat.lt_trichotomy (Z18 e i) k with h|h|h
 · have a:=h1 _ h;have b:=Z74 e i (by omega);omega
 · exact h
 · have a:=Z73 e i k h;have b:=h2 (by omega);omega
theorem Za5 {e:List Pnt}(h:Zbk e):∀(d j:Nat),j+d+1<e.length→(e.getD j Z0j).at_<(e.getD (j+d+1) Z0j).at_
 |0,j,hk=>h j hk
 |d+1,j,hk=>by have:=Za5 h d j (by omega);have h2:=h (j+d+1) (by omega);have e1:j+(d+1)+1=j+d+1+1:=(by omega);rw[e1];omega
theorem Z7w {e:List Pnt}(h:Zbk e){j k:Nat}(hj:j≤k)(hk:k<e.length):(e.getD j Z0j).at_≤(e.getD k Z0j).at_:=by
 rcases Nat.lt_or_ge j k with g|g
 · have:=Za5 h (k - j - 1) j (by omega);have e1:j+(k - j - 1)+1=k:=(by omega);rw[e1]at this;omega
 · have:j=k:=(by omega);subst this;omega
theorem mk_one {n:Nat}(h:0<n):mkRat (n:Int) n=1:=by
 rw[show(1:Rat)=mkRat 1 1 from rfl,Rat.mkRat_eq_iff (by omega) (by omega)];omega
theorem segQ_end {p q:Pnt}(h:p.at_<q.at_):Z7v p q q.at_=Z07 q:=by
 unfold Z7v;have e1:q.at_ - p.at_=(((q.at_ - p.at_).toNat:Nat):Int):=by omega
 have e2:mkRat (q.at_ - p.at_) (q.at_ - p.at_).toNat=1:=by have:=mk_one (n:=(q.at_ - p.at_).toNat) (by omega);rw[←e1]at this;exact this
 rw[e2,Rat.mul_one,Rat.sub_eq_add_neg,Rat.add_comm (Z07 q),←Rat.add_assoc,Rat.add_neg_cancel,Rat.zero_add]
theorem Z96 {e:List Pnt}{i:Int}(h:Zbk e)(hk:Z18 e i<e.length)(ha:(e.getD (Z18 e i) Z0j).at_=i):Z38 e i=Z07 (e.getD (Z18 e i) Z0j):=by
 unfold Z38;by_cases h0:Z18 e i=0
 · rw[if_pos h0,h0]
 · rw[if_neg h0,if_neg (by omega)];have h1:=h (Z18 e i - 1) (by omega);rw[show Z18 e i - 1+1=Z18 e i by omega]at h1;have:=segQ_end h1;rw[ha]at this;exact this
theorem Z40 {e:List Pnt}{i:Int}(h:Z18 e i=0):Z38 e i=Z07 (e.getD 0 Z0j):=by unfold Z38;rw[if_pos h]
theorem Z39 {e:List Pnt}{i:Int}(h0:Z18 e i≠0)(h:Z18 e i=e.length):Z38 e i=Z07 (e.getD (e.length - 1) Z0j):=by unfold Z38;rw[if_neg h0,if_pos h]
theorem Z41 {e:List Pnt}{i:Int}(h0:Z18 e i≠0)(h:Z18 e i≠e.length):Z38 e i=Z7v (e.getD (Z18 e i - 1) Z0j) (e.getD (Z18 e i) Z0j) i:=by unfold Z38;rw[if_neg h0,if_neg h]
def Z7r (q:Rat):List UInt8:=(if q.num<0 then [45]else [])++Lib.decDigits q.num.natAbs
def Zbl (q:Rat):List UInt8:=Lib.decDigits q.den
theorem Z42 {ln:Int}{e:List Pnt}(h:Z3r ln e=0):Zbk e:=fun k hk=>by
 unfold Z3r at h
 split at h
 · omega
 ·
  split at h
  · omega
  ·
   have h1:=Z2u h (k+1) hk;unfold Z3i at h1
   split at h1
   · omega
   ·
    split at h1
    · omega
    ·
     rename_i h2
     rw[Nat.add_sub_cancel]at h2;omega
theorem Z58 {n d:ByteArray}(h:Z2h n d=0):(mkRat (Z6x n) (Z0e d.data.toList)).num=Z6x n∧(mkRat (Z6x n) (Z0e d.data.toList)).den=Z0e d.data.toList∧0<Z0e d.data.toList:=by
 have hr:=Z3t h;have hd:0<Z0e d.data.toList:=hr.p;have hg:Nat.gcd (Z6x n).natAbs (Z0e d.data.toList)=1:=by rw[Z2t];exact hr.g
 obtain⟨h1,h2⟩:=mk_id hd hg;exact⟨h1,h2,hd⟩
def db (D:List Nat):List UInt8:=D.map fun d=>UInt8.ofNat (48+d)
theorem db_snoc (D:List Nat)(d:Nat):db (D++ [d])=db D++ [UInt8.ofNat (48+d)]:=by simp[db]
theorem Z6e (D:List Nat):(db D).length=D.length:=by simp[db]
theorem db_val:∀(D:List Nat),Ds 10 D→Z0e (db D).reverse=val 10 D∧(db D).reverse.all isD=true
 | [],_=>⟨rfl,rfl⟩
 |d::D,h=>by obtain⟨h1,h2⟩:=db_val D (fun x hx=>h x (by simp[hx]));have hd:d<10:=h d (by simp);have hb:=Z7s hd;have e:(db (d::D)).reverse=(db D).reverse++ [UInt8.ofNat (48+d)]:=(by simp[db]);rw[e,Z1q,h1,hb,List.all_append,h2];refine⟨by simp only[val];omega, ?_⟩;have:isD (UInt8.ofNat (48+d))=true:=(by unfold isD;rw[hb];simp;omega);rw[List.all_cons,List.all_nil,this];rfl
theorem db_dec {D:List Nat}(h:Nm 10 D)(h0:0<val 10 D):(db D).reverse=Lib.decDigits (val 10 D):=by
 obtain⟨h1,h2⟩:=db_val D h.1
 have hne:0<D.length:=by
  rcases Nat.eq_zero_or_pos D.length with e|e
  · rw[Zk e]at h0;simp[val]at h0
  · exact e
 rw[←h1];refine(Z5m _ _ rfl h2 ⟨fun e=> ?_,fun e=> ?_⟩).symm
 · have:=congrArg List.length e;rw[List.length_reverse,Z6e,List.length_nil]at this;omega
 · exfalso;have hl:=h.last hne;rw[List.head?_reverse,List.getLast?_eq_getElem?,Z6e,Zi (by rw[Z6e];omega)]at e;injection e with e;simp only[db,List.getElem_map]at e;have hd:D[D.length - 1]<10:=h.1 _ (Zn _);have:=Z7s hd;rw[e]at this;have h4:(48:UInt8).toNat=48:=rfl;omega
theorem txt_step {D:List Nat}{k n q V:Nat}(hk:k<9)(h:val 10 D+10 ^ D.length*(n+10 ^ (9 - k)*q)=V):val 10 (D++ [n % 10])+10 ^ (D++ [n % 10]).length*(n / 10+10 ^ (9 - (k+1))*q)=V:=by
 rw[Z0v,Zj,List.length_singleton,←h,Nat.pow_succ,show 9 - k=(9 - (k+1))+1 by omega,Nat.pow_succ];generalize 10 ^ (9 - (k+1))=T;have h1:=Nat.mod_add_div n 10;have e:n+T*10*q=n % 10+10*(n / 10+T*q):=by rw[Nat.mul_add,←Nat.add_assoc,h1,Nat.mul_comm T 10,Nat.mul_assoc]
 rw[e,Nat.mul_add (10 ^ D.length) (n % 10),Nat.mul_assoc (10 ^ D.length) 10];omega
theorem txt_lt {k n:Nat}(hk:k<9)(h:n<10 ^ (9 - k)):n / 10<10 ^ (9 - (k+1)):=by
 rw[show 9 - k=(9 - (k+1))+1 by omega,Nat.pow_succ]at h;exact(Nat.div_lt_iff_lt_mul (by omega)).2 h
def Z97 {α:Type}(l:List α)(k:Nat):List α:=l.reverse.take k++(l.drop k).take (l.length - 2*k)++l.reverse.drop (l.length - k)
theorem Z43 {α:Type}(l:List α)(k:Nat)(hk:2*k≤l.length):(Z97 l k).length=l.length:=by
 simp[Z97];omega
theorem Zcy {α:Type}(l:List α):Z97 l 0=l:=by
 unfold Z97;rw[List.drop_of_length_le (show l.reverse.length≤l.length - 0 by simp)];simp
theorem Z5p {α:Type}(l:List α)(k j:Nat)(hk:2*k≤l.length)(hj:j<l.length):(Z97 l k)[j]? =if j<k∨l.length - k≤j then l.reverse[j]? else l[j]? :=by
 unfold Z97;by_cases h1:j<k
 · rw[if_pos (.inl h1),List.append_assoc,List.getElem?_append_left (by simp;omega),List.getElem?_take_of_lt h1]
 ·
  by_cases h2:l.length - k≤j
  · rw[if_pos (.inr h2),List.getElem?_append_right (by simp;omega),List.getElem?_drop];congr 1;simp;omega
  · rw[if_neg (by omega),List.append_assoc,List.getElem?_append_right (by simp;omega),List.getElem?_append_left (by simp;omega),List.getElem?_take_of_lt (by simp;omega),List.getElem?_drop];congr 1;simp;omega
theorem Zcz {α:Type}(l:List α)(k:Nat)(hk:2*k+1<l.length)(x y:α)(hx:l[k]? =some x)(hy:l[l.length - 1 - k]? =some y):
  ((Z97 l k).set k y).set (l.length - 1 - k) x=Z97 l (k+1):=by
 apply List.ext_getElem?;intro j;by_cases hj:j<l.length
 ·
  rw[Z5p l (k+1) j (by omega) hj,List.getElem?_set,List.getElem?_set,Z5p l k j (by omega) hj];simp only[List.length_set,Z43 l k (by omega)];by_cases h1:l.length - 1 - k=j
  · subst h1;rw[if_pos rfl,if_pos (by omega),if_pos (by omega),List.getElem?_reverse (by omega),show l.length - 1 - (l.length - 1 - k)=k by omega,hx]
  ·
   rw[if_neg h1];by_cases h2:k=j
   · subst h2;rw[if_pos rfl,if_pos (by omega),if_pos (by omega),List.getElem?_reverse (by omega),hy]
   ·
    rw[if_neg h2];by_cases h3:j<k∨l.length - k≤j
    · rw[if_pos h3,if_pos (by omega)]
    · rw[if_neg h3,if_neg (by omega)]
 · rw[List.getElem?_eq_none (by simp[Z43 l k (show 2*k≤l.length by omega)];omega),List.getElem?_eq_none (by rw[Z43 l (k+1) (by omega)];omega)]
theorem Zd0 {α:Type}(l:List α)(k:Nat)(h1:2*k≤l.length)(h2:l.length≤2*k+1):Z97 l k=l.reverse:=by
 apply List.ext_getElem?;intro j;by_cases hj:j<l.length
 ·
  rw[Z5p l k j h1 hj]
  split
  · rfl
  · have:j=k:=(by omega);subst this;rw[List.getElem?_reverse (by omega)];congr 1;omega
 · rw[List.getElem?_eq_none (by rw[Z43 l k h1];omega),List.getElem?_eq_none (by simp;omega)]
theorem sca_step {B V:Nat}{a o:List Nat}{i c s:Nat}(hi:i<o.length)(hd:o.drop i=a.drop i)(h:val B (o.take i)+B ^ i*c=val B (a.take i)*s+V):
  val B ((o.set i ((c+s*a.getD i 0) % B)).take (i+1))+B ^ (i+1)*((c+s*a.getD i 0) / B)=val B (a.take (i+1))*s+V∧(o.set i ((c+s*a.getD i 0) % B)).drop (i+1)=a.drop (i+1):=by
 refine⟨?_, ?_⟩
 · rw[Z06,Z06,List.take_set_of_le (Zh i)];have e:(o.set i ((c+s*a.getD i 0) % B)).getD i 0=(c+s*a.getD i 0) % B:=(by rw[Zg,List.getElem?_set_self hi];rfl);rw[e];have h2:=Z11 (B:=B) i (c+s*a.getD i 0);rw[Nat.mul_add]at h2;rw[Nat.add_mul,Nat.mul_assoc,Nat.mul_comm (a.getD i 0) s];omega
 · rw[List.drop_set_of_lt (by omega),←List.drop_drop,←List.drop_drop,hd]
theorem Nm.of_ge {B:Nat}{l:List Nat}(hB:0<B)(h:Ds B l)(hv:0<l.length→B ^ (l.length - 1)≤val B l):Nm B l:=by
 refine Nm.mk' h fun hl=> ?_;have h1:=hv hl;have h2:=Z06 (B:=B) l (l.length - 1);rw[show l.length - 1+1=l.length by omega,List.take_length,Zg,Zi (by omega)]at h2;have h3:=Z2z hB (h.take (l.length - 1));rw[List.length_take,Nat.min_eq_left (by omega)]at h3;simp only[Option.getD_some]at h2;rcases Nat.eq_zero_or_pos l[l.length - 1]with h0|h0
 · rw[h0,Nat.mul_zero]at h2;omega
 · exact h0
def L4:Nat:=10000
def nc (l:List Nat):List Value:=l.map fun d=>Value.int .i64 (d:Nat)
theorem Z5q (l:List Nat):(nc l).length=l.length:=by simp[nc]
theorem Zd1 (l:List Nat)(k:Nat)(h:k<l.length):(nc l)[k]? =some (.int .i64 (l.getD k 0:Nat)):=by
 simp[nc,List.getD_eq_getElem?_getD,h]
theorem Z44 (a b:List Nat):nc (a++b)=nc a++nc b:=by simp[nc]
theorem Zd2 (l:List Nat)(i d:Nat):nc (l.set i d)=(nc l).set i (.int .i64 (d:Nat)):=by simp[nc,List.map_set]
def RdN (w:World)(A:Option Addr)(vs:List Value):Prop:=Rd w A vs∧∀b off,A=some ⟨b,off,none⟩→vs≠ []→∃cs fr,w.heap[b]? =some (.cells cs 3 fr)
theorem RdN.rd {w:World}{A:Option Addr}{vs:List Value}(h:RdN w A vs):Rd w A vs:=h.1
instance {w:World}{A:Option Addr}{vs:List Value}:Coe (RdN w A vs) (Rd w A vs):=⟨And.left⟩
theorem RdN.at_ {w:World}{A:Option Addr}{vs:List Value}(h:RdN w A vs)(hn:0<vs.length):
  ∃b off,A=some ⟨b,off,none⟩∧b<w.heap.size∧∀j u,vs[j]? =some u→w.cell? ⟨b,off+j,none⟩=some u:=h.1.at_ hn
theorem RdN.kept {w w':World}{A:Option Addr}{vs:List Value}(h:RdN w A vs)(hs:w.heap.size≤w'.heap.size)(hk:∀b off,A=some ⟨b,off,none⟩→vs≠ []→b<w.heap.size→w'.heap[b]? =w.heap[b]?):RdN w' A vs:=by
 obtain⟨h1,h2⟩:=h;by_cases h0:vs= []
 · exact⟨.inl h0,fun _ _ _ h=>absurd h0 h⟩
 ·
  rcases h1 with h1|⟨b,off,e,hb,hc⟩
  · exact absurd h1 h0
  · have hbb:=hk b off e h0 hb;refine⟨.inr ⟨b,off,e,by omega,fun j u hu=>(World.cell?_of_block hbb).trans (hc j u hu)⟩,fun b2 off2 e2 _=> ?_⟩;rw[e]at e2;injection e2 with e2;injection e2 with e2 e3;subst e2;rw[hbb];exact h2 b off e h0
theorem RdN.below {w w':World}{A:Option Addr}{vs:List Value}(h:RdN w A vs)(hb:Below w.heap.size w w'):RdN w' A vs:=
 h.kept hb.size fun b _ _ _ hl=>hb.block b hl
theorem RdN.nil (w:World)(A:Option Addr):RdN w A []:=⟨.inl rfl,fun _ _ _ h=>absurd rfl h⟩
theorem RdN.of_own {w:World}{base size n c:Nat}{A:Option Addr}{xs:List Value}(h:w.ownsRow base 3 size (.slice A n c) n xs):RdN w A xs:=by
 refine⟨Rd.of_own h,fun b off e h0=> ?_⟩;rcases h.2 with⟨h1,h2⟩|⟨g,cap,cur,hv,hb,hg,_⟩
 · exact absurd (Zk (by rw[h.1,h2];simp)) h0
 · injection hv with hv1 hv2 hv3;rw[e]at hv1;injection hv1 with hv1;injection hv1 with hv1 hv4;subst hv1;exact⟨_,_,hg⟩
def Z05 (w:World)(v:Value)(n:Nat):Prop:=∃A c l,v= .slice A l.length c∧RdN w A (nc l)∧Nm L4 l∧val L4 l=n
theorem Z05.below {w w':World}{v:Value}{n:Nat}(h:Z05 w v n)(hb:Below w.heap.size w w'):Z05 w' v n:=by
 obtain⟨A,c,l,e,h,k⟩:=h;exact⟨A,c,l,e,h.below hb,k⟩
theorem nc_ne {l:List Nat}(h:nc l≠ []):l≠ []:=fun e=>h (by rw[e];rfl)
theorem Z05.kept {w w':World}{v:Value}{n:Nat}(h:Z05 w v n)(hs:w.heap.size≤w'.heap.size)(hk:∀(b:Nat) cs fr,w.heap[b]? =some (Obj.cells cs 3 fr)→w'.heap[b]? =w.heap[b]?):Z05 w' v n:=by
 obtain⟨A,c,l,e,h,k⟩:=h;refine⟨A,c,l,e,h.kept hs fun b off e0 hne _=> ?_,k⟩;obtain⟨cs,fr,hb⟩:=h.2 b off e0 hne;exact hk b cs fr hb
theorem w32_le (k:Nat):W32 ^ k≤L4 ^ (3*k):=by
 rw[Nat.pow_mul];exact Nat.pow_le_pow_left (by decide) k
theorem Lim.len4 {k:Nat}{l:List Nat}(h:Nm L4 l)(hk:Lim k (val L4 l)):l.length≤3*k:=
 h.len_le (by decide) (Nat.lt_of_lt_of_le hk (w32_le k))
theorem zero4 (k:Nat)(y:List UInt8):Z0e (List.replicate k 48++y)=Z0e y:=by
 rw[Z3h _ _ y rfl]
 have:Z0e (List.replicate k 48)=0:=by
  induction k with
  |zero=>rfl
  |succ k ih=>rw[List.replicate_succ',Z1q,ih];rfl
 rw[this];omega
def Zd3 (x:Nat):List UInt8:=List.replicate (4 - (Lib.decDigits x).length) 48++Lib.decDigits x
theorem Zbm {x:Nat}(h:x<10000):(Zd3 x).length=4∧Z0e (Zd3 x)=x∧(Zd3 x).all isD=true:=by
 obtain⟨h1,h2,h3,h4⟩:=Z1d x;have hl:=Z3s 4 x (by omega) (by simpa using h);unfold Zd3;refine⟨by simp;omega,by rw[zero4,h2], ?_⟩;rw[List.all_append,h1,Bool.and_true,List.all_eq_true];intro b hb;rw[List.eq_of_mem_replicate hb];rfl
def Zbn (l:List Nat):List UInt8:=match l.reverse with| []=> [48]|t::r=>Lib.decDigits t++r.flatMap Zd3
theorem flat4:∀(r:List Nat),Ds L4 r→(r.flatMap Zd3).length=4*r.length∧Z0e (r.flatMap Zd3)=val L4 r.reverse∧(r.flatMap Zd3).all isD=true
 | [],_=>⟨rfl,rfl,rfl⟩
 |d::r,h=>by obtain⟨h1,h2,h3⟩:=flat4 r (fun x hx=>h x (by simp[hx]));obtain⟨g1,g2,g3⟩:=Zbm (x:=d) (h d (by simp));rw[List.flatMap_cons,List.reverse_cons,Zj,h1,g1,List.length_cons,List.all_append,h3,g3,Z3h _ _ _ h1,Z0v,h2,g2,List.length_reverse];refine⟨by omega, ?_,rfl⟩;have:L4 ^ r.length=10 ^ (4*r.length):=(by rw[Nat.pow_mul];rfl);rw[this,Nat.mul_comm];omega
theorem txt4_dec {l:List Nat}(h:Nm L4 l):Zbn l=Lib.decDigits (val L4 l):=by
 unfold Zbn;cases hr:l.reverse with
 |nil=>
  have:l= []:=by simpa using hr
  subst this;simp only[val];rw[Lib.decDigits,dif_pos (by omega)];rfl
 |cons t r=>
  have hl:l=r.reverse++ [t]:=by rw[←List.reverse_reverse l,hr];simp
  have ht:0<t:=by have:=h.last (by rw[hl];simp);simpa [hl]using this
  have hD:Ds L4 r:=fun x hx=>h.1 x (by rw[hl];simp[hx]);obtain⟨h1,h2,h3⟩:=flat4 r hD;obtain⟨d1,d2,d3,d4⟩:=Z1d t;simp only;have e:Z0e (Lib.decDigits t++r.flatMap Zd3)=val L4 l:=by rw[Z3h _ _ _ h1,d2,h2,hl,Z0v,List.length_reverse];have:L4 ^ r.length=10 ^ (4*r.length):=(by rw[Nat.pow_mul];rfl);rw[this,Nat.mul_comm];omega
  rw[←e];refine(Z5m _ _ rfl (by rw[List.all_append,d1,h3];rfl) ⟨?_,fun e=> ?_⟩).symm
  · intro e;have:=congrArg List.length e;simp at this;exact d3 (by rw[this.1];rfl)
  ·
   exfalso
   have:(Lib.decDigits t).head? =some 48:=by
    cases hd:Lib.decDigits t with
    |nil=>rw[hd]at d3;simp at d3
    |cons x y=>rw[hd]at e;simpa using e
   have:=d4 this;omega
theorem lmb_step {out:List Nat}{s:List UInt8}{V:Nat}(h:val L4 out+L4 ^ out.length*Z0e s=V):
  val L4 (out++ [Z0e (s.drop (s.length - 4))])+L4 ^ (out++ [Z0e (s.drop (s.length - 4))]).length*Z0e (s.take (s.length - 4))=V:=by
 rw[Z0v,Zj,List.length_singleton,Nat.pow_succ,Nat.mul_assoc,Nat.add_assoc,←Nat.mul_add]
 have e:Z0e s=Z0e (s.drop (s.length - 4))+L4*Z0e (s.take (s.length - 4)):=by
  by_cases h4:4≤s.length
  ·
   conv=>lhs;rw[←List.take_append_drop (s.length - 4) s]
   rw[Z3h _ 4 _ (by rw[List.length_drop];omega)];have:L4=10 ^ 4:=rfl;rw[this,Nat.mul_comm (10 ^ 4)];omega
  · rw[show s.length - 4=0 by omega];simp[Z0e]
 rw[←e,h]
theorem lmb_lt {s:List UInt8}(h:s.all isD=true):Z0e (s.drop (s.length - 4))<L4:=by
 have h1:=Z4p (s.drop (s.length - 4)).length _ rfl (Z6w h _);have h2:10 ^ (s.drop (s.length - 4)).length≤10 ^ 4:=Nat.pow_le_pow_right (by omega) (by rw[List.length_drop];omega);have:L4=10 ^ 4:=rfl;omega
def Srt (l:List Cli):Prop:=∀i,0<i→i<l.length→¬Z14 (l.getD i Z1g) (l.getD (i - 1) Z1g)<0
def SmC (xs ys:List Cli):Prop:=xs.Perm ys∧Srt xs∧Srt ys
def Z8y:List Bool→List Cli→List Cli
 |u::U,y::ys=>if u then Z8y U ys else y::Z8y U ys
 |_,_=> []
theorem Z7x (ys:List Cli):Z8y (List.replicate ys.length false) ys=ys:=by
 induction ys with
 |nil=>rfl
 |cons y ys ih=>rw[List.length_cons,List.replicate_succ,Z8y,ih];simp
theorem Z7y:∀(U:List Bool) (ys:List Cli) (k:Nat) (c:Cli),U[k]? =some false→ys[k]? =some c→(Z8y U ys).Perm (c::Z8y (U.set k true) ys)
 | [],_,k,c,h,_=>by simp at h
 |u::U,[],k,c,_,h=>by simp at h
 |u::U,y::ys,0,c,h1,h2=>by simp only[Ze,Option.some.injEq]at h1 h2;subst h1 h2;simp[Z8y]
 |u::U,y::ys,k+1,c,h1,h2=>by
  simp only[Zf]at h1 h2;have ih:=Z7y U ys k c h1 h2;rw[Zd,Z8y,Z8y];cases u with
  |true=>simpa using ih
  |false=>
   simp only[Bool.false_eq_true,if_false];exact(ih.cons y).trans (List.Perm.swap c y _)
theorem Z75:∀(U:List Bool) (ys:List Cli) (c:Cli),c∈Z8y U ys→∃k:Nat,U[k]? =some false∧ys[k]? =some c
 | [],ys,c,h=>by unfold Z8y at h;cases h
 |u::U,[],c,h=>by unfold Z8y at h;cases h
 |u::U,y::ys,c,h=>by
  rw[Z8y]at h;cases u with
  |true=>
   obtain⟨k,h1,h2⟩:=Z75 U ys c (by simpa using h);exact⟨k+1,by simpa using h1,by simpa using h2⟩
  |false=>
   simp only[Bool.false_eq_true,if_false]at h;rcases List.mem_cons.1 h with h|h
   · exact⟨0,rfl,by simp[h]⟩
   · obtain⟨k,h1,h2⟩:=Z75 U ys c h;exact⟨k+1,by simpa using h1,by simpa using h2⟩
def SmI (xs ys:List Cli)(i:Nat)(U:List Bool):Prop:=
 U.length=ys.length∧(xs.Perm ys↔(xs.drop i).Perm (Z8y U ys))∧(Z8y U ys).length=ys.length - i∧
 (∀j,0<j→j<i→¬Z14 (xs.getD j Z1g) (xs.getD (j - 1) Z1g)<0∧¬Z14 (ys.getD j Z1g) (ys.getD (j - 1) Z1g)<0)
theorem SmI.start (xs ys:List Cli):SmI xs ys 0 (List.replicate ys.length false):=by
 refine⟨by simp, ?_,by rw[Z7x];omega,fun j h1 h2=>by omega⟩;rw[Z7x];rfl
theorem SmI.none {xs ys:List Cli}{i:Nat}{U:List Bool}(h:SmI xs ys i U)(hi:i<xs.length)(hn:∀k,k<ys.length→U[k]? =some true∨ys[k]? ≠some xs[i]):¬SmC xs ys:=by
 rintro⟨hp,_,_⟩;have h1:=h.2.1.1 hp;rw[List.drop_eq_getElem_cons hi]at h1;have h2:xs[i]∈Z8y U ys:=h1.subset (List.mem_cons_self ..);obtain⟨k,k1,k2⟩:=Z75 U ys _ h2;have hk:k<ys.length:=(List.getElem?_eq_some_iff.1 k2).1;rcases hn k hk with g|g
 · rw[k1]at g;cases g
 · exact g k2
theorem SmI.step {xs ys:List Cli}{i k:Nat}{U:List Bool}(h:SmI xs ys i U)(hi:i<xs.length)(h1:U[k]? =some false)(h2:ys[k]? =some xs[i])
  (ho:0<i→¬Z14 (xs.getD i Z1g) (xs.getD (i - 1) Z1g)<0∧¬Z14 (ys.getD i Z1g) (ys.getD (i - 1) Z1g)<0):SmI xs ys (i+1) (U.set k true):=by
 have hp:=Z7y U ys k _ h1 h2;refine⟨by rw[List.length_set];exact h.1, ?_, ?_,fun j hj hj2=> ?_⟩
 ·
  rw[h.2.1,List.drop_eq_getElem_cons hi];constructor
  · intro g;exact(g.trans hp).cons_inv
  · intro g;exact(g.cons _).trans hp.symm
 · have:=hp.length_eq;rw[h.2.2.1,List.length_cons]at this;omega
 ·
  rcases Nat.lt_or_ge j i with g|g
  · exact h.2.2.2 j hj g
  · have:j=i:=(by omega);subst this;exact ho hj
theorem SmI.bad {xs ys:List Cli}{i:Nat}(hl:xs.length=ys.length)(h0:0<i)(hi:i<xs.length)
  (ho:Z14 (xs.getD i Z1g) (xs.getD (i - 1) Z1g)<0∨Z14 (ys.getD i Z1g) (ys.getD (i - 1) Z1g)<0):¬SmC xs ys:=by
 rintro⟨_,h1,h2⟩;rcases ho with g|g
 · exact h1 i h0 hi g
 · exact h2 i h0 (by omega) g
theorem SmI.done {xs ys:List Cli}{U:List Bool}(h:SmI xs ys xs.length U)(hl:xs.length=ys.length):SmC xs ys:=by
 refine⟨h.2.1.2 ?_,fun i h0 hi=>(h.2.2.2 i h0 hi).1,fun i h0 hi=>(h.2.2.2 i h0 (by omega)).2⟩;have:=h.2.2.1;rw[hl,Nat.sub_self]at this;rw[Zk this,List.drop_length]
theorem SmC.len {xs ys:List Cli}(h:SmC xs ys):xs.length=ys.length:=h.1.length_eq
theorem SmC.refl {xs:List Cli}(h:Srt xs):SmC xs xs:=⟨List.Perm.refl _,h,h⟩
theorem SmC.symm {xs ys:List Cli}(h:SmC xs ys):SmC ys xs:=⟨h.1.symm,h.2.2,h.2.1⟩
theorem Zd4 {a b:Cli}(h:Z14 a b=0):a.tr=b.tr∧a.at_=b.at_∧a.m=b.m∧a.ch=b.ch∧a.fr=b.fr∧a.ln=b.ln:=by
 have key:∀l:List Int,orZ l=0→∀x∈l,x=0:=by
  intro l
  induction l with
  |nil=>simp
  |cons y l ih=>
   intro g x hx;rw[orZ]at g
   split at g
   ·
    rename_i h0
    rcases List.mem_cons.1 hx with e|e
    · rw[e,h0]
    · exact ih g x e
   · rename_i h0;exact absurd g h0
 have h1:=key _ h
 have hz:∀x y:Int,Z1x x y=0→x=y:=by
  intro x y g;unfold Z1x at g
  split at g
  · omega
  · split at g<;>omega
 have hs:∀x y:ByteArray,Z71 x y=0→x=y:=by
  intro x y g;rw[Z2c]at g
  split at g
  · omega
  ·
   split at g
   · assumption
   · omega
 exact⟨hz _ _ (h1 _ (by simp)),hz _ _ (h1 _ (by simp)),hs _ _ (h1 _ (by simp)),hz _ _ (h1 _ (by simp)),hz _ _ (h1 _ (by simp)),hz _ _ (h1 _ (by simp))⟩
theorem Zd5 (a:Cli):Z14 a a=0:=by
 have:=Z57 a a;omega
theorem Z7z (a b:Cli):Z14 a b= -1∨Z14 a b=0∨Z14 a b=1:=by
 have hz:∀x y:Int,Z1x x y= -1∨Z1x x y=0∨Z1x x y=1:=by
  intro x y;unfold Z1x
  split
  · simp
  · split<;>simp
 have hs:∀x y:ByteArray,Z71 x y= -1∨Z71 x y=0∨Z71 x y=1:=by
  intro x y;rw[Z2c]
  split
  · simp
  · split<;>simp
 have key:∀l:List Int,(∀x∈l,x= -1∨x=0∨x=1)→orZ l= -1∨orZ l=0∨orZ l=1:=by
  intro l
  induction l with
  |nil=>simp[orZ]
  |cons y l ih=>
   intro h;rw[orZ]
   split
   · exact ih (fun x hx=>h x (by simp[hx]))
   · exact h y (by simp)
 refine key _ fun x hx=> ?_;simp only[List.mem_cons,List.not_mem_nil,or_false]at hx;rcases hx with h|h|h|h|h|h
 · rw[h];exact hz _ _
 · rw[h];exact hz _ _
 · rw[h];exact hs _ _
 · rw[h];exact hz _ _
 · rw[h];exact hz _ _
 · rw[h];exact hz _ _
def DI (b r lo hi:Nat):Prop:=b*lo≤r∧r<b*(hi+1)
theorem DI.start {b r B:Nat}(hB:0<B)(h:r<b*B):DI b r 0 (B - 1):=⟨by omega,by rw[show B - 1+1=B by omega];exact h⟩
theorem DI.low {b r lo hi m:Nat}(h:DI b r lo hi)(hm:b*m≤r):DI b r m hi:=⟨hm,h.2⟩
theorem DI.high {b r lo hi m:Nat}(h:DI b r lo hi)(h0:0<m)(hm:¬b*m≤r):DI b r lo (m - 1):=⟨h.1,by rw[show m - 1+1=m by omega];omega⟩
theorem DI.end {b r n:Nat}(h:DI b r n n):r / b=n∧r - b*n=r % b:=by
 have hb:0<b:=by
  rcases Nat.eq_zero_or_pos b with e|e
  · subst e;have:=h.2;omega
  · exact e
 have h1:r / b=n:=by
  apply Nat.le_antisymm
  · exact Nat.le_of_lt_succ ((Nat.div_lt_iff_lt_mul hb).2 (by rw[Nat.mul_comm];exact h.2))
  · exact(Nat.le_div_iff_mul_le hb).2 (by rw[Nat.mul_comm];exact h.1)
 refine⟨h1, ?_⟩;have:=Nat.div_add_mod r b;rw[h1]at this;omega
theorem mid_lt {lo hi:Nat}(h:lo<hi):lo<(lo+hi+1) / 2∧(lo+hi+1) / 2≤hi:=by omega
theorem dv_step {B:Nat}{a:List Nat}{i Q R b:Nat}(hi:i<a.length)(h:val B (a.drop (i+1))=Q*b+R):
  val B (a.drop i)=((a.getD i 0+B*R) / b+B*Q)*b+(a.getD i 0+B*R) % b:=by
 rw[List.drop_eq_getElem_cons hi,val,h,Zg,Zi hi];simp only[Option.getD_some];have e:=Nat.div_add_mod (a[i]+B*R) b;rw[Nat.add_mul,Nat.mul_add,Nat.mul_comm ((a[i]+B*R) / b) b,←Nat.mul_assoc];omega
theorem dv_lt {B:Nat}{a:List Nat}{i R b:Nat}(hB:0<B)(ha:Ds B a)(hR:R<b):a.getD i 0+B*R<b*B:=by
 have h1:=ha.getD hB i;have h2:B*(R+1)≤B*b:=Nat.mul_le_mul_left B hR;rw[Nat.mul_add,Nat.mul_one]at h2;rw[Nat.mul_comm b B];omega
theorem dv_val {B:Nat}{o:List Nat}{i q Q:Nat}(hi:i<o.length)(h:val B (o.drop (i+1))=Q):val B ((o.set i q).drop i)=q+B*Q:=by
 rw[List.drop_eq_getElem_cons (by simpa using hi),val,List.getElem_set_self];congr 2;rw[List.drop_set_of_lt (by omega)];exact h
end Go.Dw
