/- Several texts laid into one: Plain: the plain envelope of factors, found at all samples or from breaks alone; Plain: the plain envelope has the factors that it was made of; Plain: a factor is read as it is written; clips that are cut; Plain: the program's plain envelope, found from breaks, is the plain envelope, but for those with too many points; Plans: some clips become others, then those from a position on are moved; plain Lean; Plain: clips that are the same but for envelopes of too many points have the same faults; the law of plans; Plain: Split and Gap as plans, and as they are described; Plain: Extract, as the program has it and as it is described; -/
import Derived.Lib.SlicesCompact
import Derived.Test.YtcemlhbfemenpaaGreatDoorStpZ
namespace Go.Dw
open Go.RowKit
def Z3p (f:Int→Rat)(i:Int):Bool:=decide (f i - f (i - 1)≠f (i+1) - f i)
def ivl (a:Int):Nat→List Int
 |0=> []
 |m+1=>ivl a m++ [a+m]
def bUp (f:Int→Rat):Nat→List Int
 |0=> []
 |m+1=>if 0<m∧Z3p f m=true then bUp f m++ [(m:Int)]else bUp f m
def hdQ (f:Int→Rat)(n:Nat):List Int:=if 1<n∧f 0≠f 1 then [0]else []
def tlQ (f:Int→Rat)(n:Nat):List Int:=if 1<n∧f ((n:Int) - 1)≠f ((n:Int) - 2)then [(n:Int) - 1]else []
def orZero (l:List Int):List Int:=if l= []then [0]else l
def Z69 (f:Int→Rat)(n:Nat):List Int:=orZero (hdQ f n++bUp f (n - 1)++tlQ f n)
def Z0n (f:Int→Rat)(i:Int):Pnt:=⟨i,⟨(Z7r (f i)).toArray⟩,⟨(Zbl (f i)).toArray⟩⟩
def Z5g (f:Int→Rat)(n:Nat):List Pnt:=(Z69 f n).map (Z0n f)
theorem Zav {f:Int→Rat}{a:Nat}:∀ {m:Nat},(∀i:Nat,a<i→i<a+1+m→Z3p f i=false)→bUp f (a+1+m)=bUp f (a+1)
 |0,_=>rfl
 |m+1,h=>by have h1:=h (a+1+m) (by omega) (by omega);show bUp f ((a+1+m)+1)=_;rw[bUp,if_neg (fun g=>by rw[h1]at g;cases g.2)];exact Zav fun i hi hj=>h i hi (by omega)
theorem Zel {f:Int→Rat}{a:Nat}:∀ {m:Nat},(∀i:Nat,a<i→i<a+1+m→Z3p f i=true)→bUp f (a+1+m)=bUp f (a+1)++ivl ((a:Int)+1) m
 |0,_=>by simp[ivl]
 |m+1,h=>by have h1:=h (a+1+m) (by omega) (by omega);show bUp f ((a+1+m)+1)=_;rw[bUp,if_pos ⟨by omega,h1⟩,Zel fun i hi hj=>h i hi (by omega),ivl,List.append_assoc];congr 2
def Cap {α:Type}(K:Nat)(o u:List α):Prop:=(u.length≤K→o=u)∧(K<u.length→K<o.length)
theorem Cap.refl {α:Type}(K:Nat)(u:List α):Cap K u u:=⟨fun _=>rfl,fun h=>h⟩
theorem Cap.app {α:Type}{K:Nat}{o u:List α}(h:Cap K o u)(x:List α):Cap K (o++x) (u++x):=by
 refine⟨fun hl=> ?_,fun hl=> ?_⟩
 · rw[Zj]at hl;rw[h.1 (by omega)]
 ·
  rw[Zj]at hl⊢;by_cases g:u.length≤K
  · rw[h.1 g];exact hl
  · have:=h.2 (by omega);omega
theorem Cap.cut {α:Type}{K:Nat}{o u x y:List α}(h:Cap K o u)(hy:y=x∨(∃z,x=y++z)∧K<(o++y).length):Cap K (o++y) (u++x):=by
 rcases hy with rfl|⟨⟨z,rfl⟩,hl⟩
 · exact h.app y
 · refine⟨fun hu=> ?_,fun _=>hl⟩;rw[Zj,Zj]at hu;have e:=h.1 (by omega);rw[e,Zj]at hl;omega
theorem Cap.map {α β:Type}{K:Nat}{o u:List α}(h:Cap K o u)(g:α→β):Cap K (o.map g) (u.map g):=by
 refine⟨fun hu=> ?_,fun hu=> ?_⟩
 · rw[List.length_map]at hu;rw[h.1 hu]
 · rw[List.length_map]at hu⊢;exact h.2 hu
theorem Cap.orZero {o u:List Int}(h:Cap 50 o u):Cap 50 (orZero o) (orZero u):=by
 unfold Go.Dw.orZero;by_cases hu:u= []
 · subst hu;have:=h.1 (by simp);rw[this];exact Cap.refl _ _
 ·
  rw[if_neg hu];by_cases ho:o= []
  ·
   subst ho;by_cases g:u.length≤50
   · exact absurd (h.1 g).symm hu
   · have:=h.2 (by omega);simp at this
  · rw[if_neg ho];exact h
theorem envF_cap {ln:Int}{e e':List Pnt}(h:Cap 50 e e'):Z3r ln e=Z3r ln e':=by
 by_cases hl:e'.length≤50
 · rw[h.1 hl]
 · have h2:=h.2 (by omega);unfold Z3r;rw[if_neg (by omega),if_pos h2,if_neg (by omega),if_pos (by omega)]
def Aff (f:Int→Rat)(a b:Int):Prop:=∃d:Rat,∀i,a≤i→i<b→f (i+1)=f i+d
def Evn (f:Int→Rat)(a b:Int):Prop:=∀i,a<i→i<b→Z3p f i=Z3p f (a+1)
theorem evn_of {f:Int→Rat}{a b:Int}{c:Rat}(h:∀i,a<i→i<b→(f (i+1) - f i) - (f i - f (i - 1))=c):Evn f a b:=fun i h1 h2=>by
 have e1:=h i h1 h2;have e2:=h (a+1) (by omega) (by omega);unfold Z3p;refine decide_eq_decide.2 ?_
 have key:∀j,(f (j+1) - f j) - (f j - f (j - 1))=c→(f j - f (j - 1)≠f (j+1) - f j↔c≠0):=fun j hj=>by
  rw[←hj];refine not_congr ⟨fun h=>by rw[h,Rat.sub_self],fun h=> ?_⟩
  grind
 rw[key i e1,key (a+1) e2]
theorem Aff.evn {f:Int→Rat}{a b:Int}(h:Aff f a b):Evn f a b:=by
 obtain⟨d,hd⟩:=h;refine evn_of (c:=0) fun i h1 h2=> ?_;have e1:=hd i (by omega) h2;have e2:=hd (i - 1) (by omega) (by omega);rw[show i - 1+1=i by omega]at e2;rw[e1,e2]
 grind
theorem Aff.mul {f g:Int→Rat}{a b:Int}(hf:Aff f a b)(hg:Aff g a b):Evn (fun i=>f i*g i) a b:=by
 obtain⟨d,hd⟩:=hf;obtain⟨e,he⟩:=hg;refine evn_of (c:=2*d*e) fun i h1 h2=> ?_;have e1:=hd i (by omega) h2;have e2:=hd (i - 1) (by omega) (by omega);have g1:=he i (by omega) h2;have g2:=he (i - 1) (by omega) (by omega);rw[show i - 1+1=i by omega]at e2 g2;show(f (i+1)*g (i+1) - f i*g i) - (f i*g i - f (i - 1)*g (i - 1))=2*d*e;have e3:f (i - 1)=f i - d:=by grind
 have g3:g (i - 1)=g i - e:=by grind
 rw[e1,g1,e3,g3]
 grind
theorem Aff.const {c:Rat}{a b:Int}:Aff (fun _=>c) a b:=⟨0,fun _ _ _=>(Rat.add_zero c).symm⟩
theorem Aff.shift {f:Int→Rat}{a b k:Int}(h:Aff f (a+k) (b+k)):Aff (fun i=>f (i+k)) a b:=by
 obtain⟨d,hd⟩:=h;refine⟨d,fun i h1 h2=> ?_⟩;have:=hd (i+k) (by omega) (by omega);rw[show i+k+1=i+1+k by omega]at this;exact this
theorem Aff.congr {f g:Int→Rat}{a b:Int}(h:Aff f a b)(e:∀i,a≤i→i≤b→g i=f i):Aff g a b:=by
 obtain⟨d,hd⟩:=h;exact⟨d,fun i h1 h2=>by rw[e (i+1) (by omega) (by omega),e i h1 (by omega)];exact hd i h1 h2⟩
theorem mk_next {k:Int}{n:Nat}(hn:0<n):mkRat (k+1) n=mkRat k n+mkRat 1 n:=by
 rw[Rat.mkRat_add_mkRat _ _ (by omega) (by omega),Rat.mkRat_eq_iff (by omega) (Nat.mul_ne_zero (by omega) (by omega))];push_cast;rw[←Int.mul_assoc,←Int.add_mul]
theorem Zem {p q:Pnt}(h:p.at_<q.at_)(i:Int):Z7v p q (i+1)=Z7v p q i+(Z07 q - Z07 p)*mkRat 1 (q.at_ - p.at_).toNat:=by
 unfold Z7v;rw[show i+1 - p.at_=i - p.at_+1 by omega,mk_next (by omega),Rat.mul_add,Rat.add_assoc]
theorem segQ_beg {p q:Pnt}:Z7v p q p.at_=Z07 p:=by
 unfold Z7v;rw[Int.sub_self,show mkRat 0 (q.at_ - p.at_).toNat=0 from Rat.zero_mkRat _,Rat.mul_zero,Rat.add_zero]
theorem valQ_aff {e:List Pnt}(h:Zbk e)(h0:0<e.length){a b:Int}(hb:∀p∈e,¬(a<p.at_∧p.at_<b)):Aff (Z38 e) a b:=by
 have hm:∀k,k<e.length→(e.getD k Z0j).at_≤a∨b≤(e.getD k Z0j).at_:=fun k hk=>by have hmem:e.getD k Z0j∈e:=(by rw[Zg,Zi hk];exact Zn hk);have:=hb _ hmem;omega
 by_cases hab:a<b
 ·
  obtain⟨k,hk⟩:∃k,Z18 e (a+1)=k:=⟨_,rfl⟩;have hkl:k≤e.length:=by rw[←hk];exact Z4q _ _
  have hlo:∀j,j<k→(e.getD j Z0j).at_≤a:=fun j hj=>by have:=Z73 e (a+1) j (by omega);omega
  have hhi:∀j,k≤j→j<e.length→b≤(e.getD j Z0j).at_:=fun j hj hjl=>by
   rcases hm j hjl with g|g
   · have g1:=Z74 e (a+1) (by omega);rw[hk]at g1;have g2:=Z7w h hj hjl;omega
   · exact g
  have hat:∀i,a<i→i≤b→Z18 e i=k:=fun i h1 h2=>Z26 hkl (fun j hj=>by have:=hlo j hj;omega) (fun hj=>by have:=hhi k (Zh _) hj;omega);by_cases hk0:k=0
  · have hz:∀i,a≤i→i≤b→Z38 e i=Z07 (e.getD 0 Z0j):=fun i h1 h2=>(by refine Z40 (Z26 (Nat.zero_le _) (fun j hj=>absurd hj (by omega)) (fun hj=> ?_));have:=hhi 0 (by omega) hj;omega);exact(Aff.const (c:=Z07 (e.getD 0 Z0j))).congr hz
  ·
   by_cases hke:k=e.length
   ·
    have hz:∀i,a≤i→i≤b→Z38 e i=Z07 (e.getD (e.length - 1) Z0j):=fun i h1 h2=>by
     by_cases hi:a<i
     · have:=hat i hi h2;exact Z39 (by omega) (by omega)
     ·
      have hia:i=a:=(by omega);subst hia;by_cases hl:(e.getD (e.length - 1) Z0j).at_<i
      · exact Z39 (by rw[Z26 (k:=e.length) (Zh _) (fun j hj=>by have:=Z7w h (show j≤e.length - 1 by omega) (by omega);omega) (fun hj=>absurd hj (by omega))];omega) (Z26 (Zh _) (fun j hj=>by have:=Z7w h (show j≤e.length - 1 by omega) (by omega);omega) (fun hj=>absurd hj (by omega)))
      · have hle:=hlo (e.length - 1) (by omega);have hlw:Z18 e i=e.length - 1:=Z26 (by omega) (fun j hj=>by have:=Za5 h (e.length - 1 - j - 1) j (by omega);rw[show j+(e.length - 1 - j - 1)+1=e.length - 1 by omega]at this;omega) (fun _=>by omega);rw[Z96 h (by omega) (by rw[hlw];omega),hlw]
    exact(Aff.const (c:=Z07 (e.getD (e.length - 1) Z0j))).congr hz
   ·
    have hpq:=h (k - 1) (by omega);rw[show k - 1+1=k by omega]at hpq;refine Aff.congr (f:=Z7v (e.getD (k - 1) Z0j) (e.getD k Z0j)) ⟨_,fun i _ _=>Zem hpq i⟩ fun i h1 h2=> ?_;by_cases hi:a<i
    · have:=hat i hi h2;rw[Z41 (by omega) (by omega),this]
    ·
     have hia:i=a:=(by omega);subst hia;have hle:=hlo (k - 1) (by omega);by_cases hl:(e.getD (k - 1) Z0j).at_<i
     · have hlw:Z18 e i=k:=Z26 hkl (fun j hj=>by have:=Z7w h (show j≤k - 1 by omega) (by omega);omega) (fun hj=>by have:=hhi k (Zh _) hj;omega);rw[Z41 (by omega) (by omega),hlw]
     · have hai:(e.getD (k - 1) Z0j).at_=i:=(by omega);have hlw:Z18 e i=k - 1:=Z26 (by omega) (fun j hj=>by have:=Za5 h (k - 1 - j - 1) j (by omega);rw[show j+(k - 1 - j - 1)+1=k - 1 by omega]at this;omega) (fun _=>by omega);rw[Z96 h (by omega) (by rw[hlw];exact hai),hlw,←hai,segQ_beg]
 · exact⟨0,fun i h1 h2=>absurd h2 (by omega)⟩
theorem Z4t {f:Int→Rat}:∀ {m:Nat} {i:Int},i∈bUp f m↔0<i∧i<m∧Z3p f i=true
 |0,i=>by simp[bUp];omega
 |m+1,i=>by
  unfold bUp
  split
  ·
   rename_i h
   rw[List.mem_append,Z4t,List.mem_singleton];constructor
   ·
    rintro(⟨h1,h2,h3⟩|h1)
    · exact⟨h1,by omega,h3⟩
    · subst h1;exact⟨by omega,by omega,h.2⟩
   ·
    rintro⟨h1,h2,h3⟩;by_cases e:i=m
    · exact .inr e
    · exact .inl ⟨h1,by omega,h3⟩
  ·
   rename_i h
   rw[Z4t];constructor
   · rintro⟨h1,h2,h3⟩;exact⟨h1,by omega,h3⟩
   ·
    rintro⟨h1,h2,h3⟩;refine⟨h1, ?_,h3⟩;by_cases e:i=m
    · subst e;exact absurd ⟨by omega,h3⟩ h
    · omega
theorem Zen (f:Int→Rat):∀m:Nat,(bUp f m).Pairwise (· < ·)
 |0=>List.Pairwise.nil
 |m+1=>by
  unfold bUp
  split
  · refine List.pairwise_append.2 ⟨Zen f m,List.pairwise_singleton _ _,fun x hx y hy=> ?_⟩;rw[List.mem_singleton.1 hy];exact(Z4t.1 hx).2.1
  · exact Zen f m
theorem Zeo {f:Int→Rat}{n:Nat}{i:Int}:i∈hdQ f n↔i=0∧1<n∧f 0≠f 1:=by
 unfold hdQ
 split
 · rename_i h;rw[List.mem_singleton];exact⟨fun e=>⟨e,h⟩,fun e=>e.1⟩
 · rename_i h;exact⟨fun e=>by simp at e,fun e=>absurd e.2 h⟩
theorem tl_mem {f:Int→Rat}{n:Nat}{i:Int}:i∈tlQ f n↔i=(n:Int) - 1∧1<n∧f ((n:Int) - 1)≠f ((n:Int) - 2):=by
 unfold tlQ
 split
 · rename_i h;rw[List.mem_singleton];exact⟨fun e=>⟨e,h⟩,fun e=>e.1⟩
 · rename_i h;exact⟨fun e=>by simp at e,fun e=>absurd e.2 h⟩
theorem Zep {f:Int→Rat}{n:Nat}{i:Int}:i∈hdQ f n++bUp f (n - 1)++tlQ f n↔(i=0∧1<n∧f 0≠f 1)∨(0<i∧i<((n - 1:Nat):Int)∧Z3p f i=true)∨(i=(n:Int) - 1∧1<n∧f ((n:Int) - 1)≠f ((n:Int) - 2)):=by
 rw[List.mem_append,List.mem_append,Zeo,Z4t,tl_mem,or_assoc]
theorem mid_pw (f:Int→Rat)(n:Nat):(hdQ f n++bUp f (n - 1)++tlQ f n).Pairwise (· < ·):=by
 refine List.pairwise_append.2 ⟨List.pairwise_append.2 ⟨?_,Zen f _,fun x hx y hy=> ?_⟩, ?_,fun x hx y hy=> ?_⟩
 ·
  unfold hdQ;split
  · exact List.pairwise_singleton _ _
  · exact List.Pairwise.nil
 · have h1:=(Zeo.1 hx).1;have h2:=(Z4t.1 hy).1;omega
 ·
  unfold tlQ;split
  · exact List.pairwise_singleton _ _
  · exact List.Pairwise.nil
 ·
  obtain⟨h2,h3,_⟩:=tl_mem.1 hy;rcases List.mem_append.1 hx with h|h
  · have h1:=(Zeo.1 h).1;omega
  · have h1:=(Z4t.1 h).2.1;omega
theorem pln_pw (f:Int→Rat)(n:Nat):(Z69 f n).Pairwise (· < ·):=by
 unfold Z69 orZero
 split
 · exact List.pairwise_singleton _ _
 · exact mid_pw f n
theorem pln_ne (f:Int→Rat)(n:Nat):0<(Z69 f n).length:=by
 unfold Z69 orZero
 split
 · simp
 ·
  rename_i h
  exact List.length_pos_iff.2 h
theorem Z7k {f:Int→Rat}{n:Nat}(hn:0<n){i:Int}(h:i∈Z69 f n):0≤i∧i<n:=by
 unfold Z69 orZero at h
 split at h
 · have:=List.mem_singleton.1 h;omega
 ·
  rcases Zep.1 h with h|h|h
  · omega
  · have h1:=h.1;have h2:=h.2.1;omega
  · omega
theorem pln_not {f:Int→Rat}{n:Nat}{i:Int}(h:i∉Z69 f n):(1<n→i=0→f 0=f 1)∧(0<i→i<(n:Int) - 1→Z3p f i=false)∧(1<n→i=(n:Int) - 1→f ((n:Int) - 1)=f ((n:Int) - 2)):=by
 have h':i∉hdQ f n++bUp f (n - 1)++tlQ f n:=fun g=>by refine h ?_;unfold Z69 orZero;rw[if_neg (fun e=>by rw[e]at g;simp at g)];exact g
 rw[Zep]at h';refine⟨fun h1 h2=> ?_,fun h1 h2=> ?_,fun h1 h2=> ?_⟩
 ·
  by_cases e:f 0=f 1
  · exact e
  · exact absurd (.inl ⟨h2,h1,e⟩) h'
 ·
  cases hb:Z3p f i with
  |false=>rfl
  |true=>exact absurd (.inr (.inl ⟨h1,by omega,hb⟩)) h'
 ·
  by_cases e:f ((n:Int) - 1)=f ((n:Int) - 2)
  · exact e
  · exact absurd (.inr (.inr ⟨h2,h1,e⟩)) h'
theorem Z8i {f:Int→Rat}{a:Int}:∀(m:Nat),(∀i,a<i→i<a+m→Z3p f i=false)→∀i,a≤i→i<a+m→f (i+1)=f i+(f (a+1) - f a)
 |0,_,i,h1,h2=>absurd h2 (by omega)
 |m+1,h,i,h1,h2=>by
  by_cases e:i<a+m
  · exact Z8i m (fun j hj hk=>h j hj (by omega)) i h1 e
  ·
   by_cases hm:m=0
   · have:i=a:=(by omega);subst this;grind
   ·
    have e1:=Z8i m (fun j hj hk=>h j hj (by omega)) (i - 1) (by omega) (by omega);have e2:=h i (by omega) h2;rw[show i - 1+1=i by omega]at e1;unfold Z3p at e2;have e3:f i - f (i - 1)=f (i+1) - f i:=by simpa using of_decide_eq_false e2
    grind
theorem Zaw {f:Int→Rat}{a:Int}{d:Rat}:∀(m:Nat),(∀i,a≤i→i<a+m→f (i+1)=f i+d)→f (a+m)=f a+((m:Int):Rat)*d
 |0,_=>by simp;exact(Rat.add_zero _).symm
 |m+1,h=>by
  have e1:=Zaw m (fun i h1 h2=>h i h1 (by omega));have e2:=h (a+m) (by omega) (by omega);have e3:a+((m+1:Nat):Int)=a+m+1:=by omega
  rw[e3,e2,e1];push_cast
  grind
theorem mk_part {m n:Nat}(hn:0<n):((n:Int):Rat)*mkRat (m:Int) n=((m:Int):Rat):=by
 rw[←Rat.mkRat_one (n:Int),Rat.mkRat_mul_mkRat,←Rat.mkRat_one (m:Int),Rat.mkRat_eq_iff (by omega) (by omega)];push_cast;rw[Int.mul_comm (n:Int) m,Int.one_mul,Int.mul_one]
theorem seg_lin {f:Int→Rat}{p q i:Int}{P Q:Pnt}(hp:P.at_=p)(hq:Q.at_=q)(rp:Z07 P=f p)(rq:Z07 Q=f q)(h1:p<i)(h2:i≤q)(h:∀j,p<j→j<q→Z3p f j=false):Z7v P Q i=f i:=by
 obtain⟨n,hn⟩:∃n:Nat,q=p+n:=⟨(q - p).toNat,by omega⟩;obtain⟨m,hm⟩:∃m:Nat,i=p+m:=⟨(i - p).toNat,by omega⟩;have hd:=Z8i (f:=f) (a:=p) n (fun j hj hk=>h j hj (by omega));have e1:=Zaw (f:=f) (a:=p) n hd;have e2:=Zaw (f:=f) (a:=p) m (fun j hj hk=>hd j hj (by omega));rw[←hn]at e1;rw[←hm]at e2;unfold Z7v;rw[hp,hq,rp,rq,e1,e2,show i - p=(m:Int) by omega,show(q - p).toNat=n by omega];have e3:=mk_part (m:=m) (n:=n) (by omega)
 grind
theorem Zax {f:Int→Rat}{a:Int}(m:Nat)(h:∀i,a≤i→i<a+m→f (i+1)=f i+0):f (a+m)=f a:=by
 rw[Zaw m h,Rat.mul_zero,Rat.add_zero]
theorem Zay {f:Int→Rat}(hf:∀i,Z07 (Z0n f i)=f i){n:Nat}{i:Int}(hi:0≤i)(hn:i<n):Z38 (Z5g f n) i=f i:=by
 obtain⟨L,hL⟩:∃L,Z69 f n=L:=⟨_,rfl⟩;have hpw:=pln_pw f n;have hne:=pln_ne f n;have hrg:∀i,i∈Z69 f n→0≤i∧i<n:=fun i h=>Z7k (by omega) h;have hnot:∀i,i∉Z69 f n→_:=fun i h=>pln_not h;unfold Z5g;rw[hL]at hpw hne hrg hnot⊢;have hel:(L.map (Z0n f)).length=L.length:=List.length_map _;have hg:∀j (hj:j<L.length),(L.map (Z0n f)).getD j Z0j=Z0n f L[j]:=fun j hj=>by rw[Zg,List.getElem?_map,Zi hj];rfl
 have hp:=List.pairwise_iff_getElem.1 hpw;obtain⟨k,hk⟩:∃k,Z18 (L.map (Z0n f)) i=k:=⟨_,rfl⟩;have hkl:=Z4q (L.map (Z0n f)) i;rw[hk,hel]at hkl;have hlo:∀j (hj:j<L.length),j<k→L[j]<i:=fun j hj h=>by have:=Z73 (L.map (Z0n f)) i j (by omega);rw[hg j hj]at this;exact this
 have hhi:∀(hj:k<L.length),i≤L[k]:=fun hj=>by have:=Z74 (L.map (Z0n f)) i (by omega);rw[hk,hg k hj]at this;exact this
 have hbt:∀(x:Int),(∀j (hj:j<L.length),j<k→L[j]<x)→(∀j (hj:j<L.length),k≤j→x<L[j])→x∉L:=fun x h1 h2 hx=>by
  obtain⟨j,hj,e⟩:=List.mem_iff_getElem.1 hx;by_cases hjk:j<k
  · have:=h1 j hj hjk;omega
  · have:=h2 j hj (by omega);omega
 have hge:∀j (hj:j<L.length) (h:k≤j) (hkk:k<L.length),L[k]≤L[j]:=fun j hj h hkk=>by
  rcases Nat.lt_or_eq_of_le h with g|g
  · have:=hp k j hkk hj g;omega
  · subst g;omega
 have hle:∀j (hj:j<L.length) (h:j<k) (hkk:k - 1<L.length),L[j]≤L[k - 1]:=fun j hj h hkk=>by
  rcases Nat.lt_or_eq_of_le (show j≤k - 1 by omega)with g|g
  · have:=hp j (k - 1) hj hkk g;omega
  · subst g;omega
 by_cases h0:k=0
 · rw[Z40 (by omega),hg 0 hne,hf];have hi0:=hhi (by omega);have hr:=hrg L[0] (Zn _);simp only[h0]at hi0;have hno:∀x,0≤x→x<L[0]→x∉L:=fun x _ h2=>hbt x (fun j hj h=>by omega) (fun j hj _=>by have:=hge j hj (by omega) (by omega);simp only[h0]at this;omega);obtain⟨m,hm⟩:∃m:Nat,L[0]=i+m:=⟨(L[0] - i).toNat,by omega⟩;rw[hm];refine Zax m fun x h1 h2=> ?_;have h01:f 0=f 1:=(hnot 0 (hno 0 (by omega) (by omega))).1 (by omega) rfl;have haf:=Z8i (f:=f) (a:=0) (L[0]).toNat (fun y hy1 hy2=>(hnot y (hno y (by omega) (by omega))).2.1 hy1 (by omega)) x (by omega) (by omega);rw[haf];have:f (0+1)=f 0:=h01.symm;rw[this,Rat.sub_self]
 ·
  by_cases hke:k=L.length
  · rw[Z39 (by omega) (by omega),hel,hg (L.length - 1) (by omega),hf];have hlt:=hlo (L.length - 1) (by omega) (by omega);have hr:=hrg L[L.length - 1] (Zn _);have hno:∀x,L[L.length - 1]<x→x∉L:=fun x h2=>hbt x (fun j hj h=>by have:=hle j hj h (by omega);simp only[hke]at this;omega) (fun j hj h=>by omega);obtain⟨m,hm⟩:∃m:Nat,i=L[L.length - 1]+m:=⟨(i - L[L.length - 1]).toNat,by omega⟩;obtain⟨a,ha⟩:∃a,L[L.length - 1]=a:=⟨_,rfl⟩;rw[ha]at hm hr hlt hno⊢;rw[hm];refine(Zax m fun x h1 h2=> ?_).symm;have hend:=(hnot ((n:Int) - 1) (hno _ (by omega))).2.2 (by omega) rfl;have haf:=Z8i (f:=f) (a:=a) ((n:Int) - 1 - a).toNat (fun y hy1 hy2=>(hnot y (hno y hy1)).2.1 (by omega) (by omega));have e1:=haf x h1 (by omega);have e2:=haf ((n:Int) - 2) (by omega) (by omega);rw[show(n:Int) - 2+1=(n:Int) - 1 by omega,hend]at e2;rw[e1];have:f (a+1) - f a=0:=(by grind);rw[this]
  · have hk1:k<L.length:=(by omega);rw[Z41 (by omega) (by omega),hk,hg (k - 1) (by omega),hg k hk1];refine seg_lin (p:=L[k - 1]) (q:=L[k]) rfl rfl (hf _) (hf _) (hlo (k - 1) (by omega) (by omega)) (hhi hk1) fun x h1 h2=> ?_;have hr1:=hrg L[k] (Zn _);have hr0:=hrg L[k - 1] (Zn _);have:=hbt x (fun j hj h=>by have:=hle j hj h (by omega);omega) (fun j hj h=>by have:=hge j hj h hk1;omega);exact(hnot x this).2.1 (by omega) (by omega)
theorem dec_head (u:Nat):∀l,Lib.decDigits u≠45::l:=fun l e=>by
 have h:=(Z1d u).1;rw[e,List.all_cons]at h;simp[isD]at h
theorem Z64 (q:Rat):sgT ⟨(Z7r q).toArray⟩=decide (q.num<0)∧boT ⟨(Z7r q).toArray⟩=Lib.decDigits q.num.natAbs:=by
 unfold sgT boT Z7r Lib.trimPrefix;by_cases h:q.num<0
 · rw[if_pos h];simp[Lib.hasPrefix,h]
 ·
  rw[if_neg h]
  have h1:Lib.hasPrefix (Lib.decDigits q.num.natAbs) [45]=false:=by
   cases hd:Lib.decDigits q.num.natAbs with
   |nil=>rfl
   |cons x l=>
    have:=dec_head q.num.natAbs l;rw[hd]at this;have hx:x≠45:=fun e=>this (by rw[e]);have hx2:(45==x)=false:=(by simpa using fun e:(45:UInt8)=x=>hx e.symm);show List.isPrefixOf [45] (x::l)=false;rw[List.isPrefixOf_cons_cons,hx2];rfl
  simp[h1,h]
theorem Z7l (f:Int→Rat)(i:Int):Z07 (Z0n f i)=f i:=by
 obtain⟨h1,h2⟩:=Z64 (f i);obtain⟨_,h4,_⟩:=Z1d (f i).num.natAbs;obtain⟨_,h5,_⟩:=Z1d (f i).den;unfold Z07 Z0n Z6x;simp only;rw[h1,h2,h4];have h6:Z0e (ByteArray.mk (Zbl (f i)).toArray).data.toList=(f i).den:=by show Z0e (Zbl (f i)).toArray.toList=_;rw[List.toList_toArray];exact h5
 rw[h6]
 have h7:(if decide ((f i).num<0)=true then -((f i).num.natAbs:Int)else((f i).num.natAbs:Int))=(f i).num:=by
  by_cases h:(f i).num<0
  · rw[if_pos (by simpa using h)];omega
  · rw[if_neg (by simpa using h)];omega
 rw[h7];exact Rat.mkRat_self _
theorem Z8j {f g:Int→Rat}:∀ {m:Nat},(∀i:Int,0≤i→i≤m→f i=g i)→bUp f m=bUp g m
 |0,_=>rfl
 |m+1,h=>by
  have ih:=Z8j (m:=m) fun i h1 h2=>h i h1 (by omega);have hb:0<m→Z3p f m=Z3p g m:=fun h0=>by unfold Z3p;rw[h m (by omega) (by omega),h (m - 1) (by omega) (by omega),h (m+1) (by omega) (by omega)]
  unfold bUp;rw[ih];by_cases h0:0<m
  · rw[hb h0]
  · rw[if_neg (fun k=>h0 k.1),if_neg (fun k=>h0 k.1)]
theorem Zc8 {f g:Int→Rat}{n:Nat}(hn:0<n)(h:∀i:Int,0≤i→i<n→f i=g i):Z69 f n=Z69 g n:=by
 unfold Z69;have h1:bUp f (n - 1)=bUp g (n - 1):=Z8j fun i h1 h2=>h i h1 (by omega)
 have h2:hdQ f n=hdQ g n:=by
  unfold hdQ;by_cases hn:1<n
  · rw[h 0 (by omega) (by omega),h 1 (by omega) (by omega)]
  · rw[if_neg (fun k=>hn k.1),if_neg (fun k=>hn k.1)]
 have h3:tlQ f n=tlQ g n:=by
  unfold tlQ;by_cases hn:1<n
  · rw[h ((n:Int) - 1) (by omega) (by omega),h ((n:Int) - 2) (by omega) (by omega)]
  · rw[if_neg (fun k=>hn k.1),if_neg (fun k=>hn k.1)]
 rw[h1,h2,h3]
theorem Zc9 {f g:Int→Rat}{n:Nat}(hn:0<n)(h:∀i:Int,0≤i→i<n→f i=g i):Z5g f n=Z5g g n:=by
 unfold Z5g;rw[Zc8 hn h];refine List.map_congr_left fun i hi=> ?_;obtain⟨h1,h2⟩:=Z7k hn hi;unfold Z0n;rw[h i h1 h2]
def Z31 (c:Cli)(a b:Int):Cli:=⟨c.m,c.ch,c.fr+a,c.tr,c.at_+a,b - a,Z5g (fun i=>Z38 c.e (i+a)) (b - a).toNat⟩
def Z2b (p:Int)(c:Cli):List Cli:=if p≤c.at_∨c.at_+c.ln≤p then [c]else [Z31 c 0 (p - c.at_),Z31 c (p - c.at_) c.ln]
def Zck (c:Cli)(s:Int×List Cli)(p:Int):Int×List Cli:=if s.1<p - c.at_∧p - c.at_<c.ln then(p - c.at_,s.2++ [Z31 c s.1 (p - c.at_)])else s
def cutF (c:Cli)(s:Int×List Cli):List Cli:=if s.1=0 then [c]else s.2++ [Z31 c s.1 c.ln]
def cutL (c:Cli)(ps:List Int):List Cli:=cutF c (ps.foldl (Zck c) (0,[]))
theorem Z7m {c:Cli}{a b x y:Int}(hx:0≤x)(hxy:x<y)(hy:y≤b - a):Z31 (Z31 c a b) x y=Z31 c (a+x) (a+y):=by
 unfold Z31;simp only;rw[show c.fr+a+x=c.fr+(a+x) by omega,show c.at_+a+x=c.at_+(a+x) by omega,show a+y - (a+x)=y - x by omega];congr 1;refine Zc9 (by omega) fun i h1 h2=> ?_;rw[Zay (fun i=>Z7l _ i) (by omega) (by omega)];congr 1;omega
theorem cut_one (c:Cli)(p:Int):cutL c [p]=Z2b p c:=by
 unfold cutL Z2b;rw[List.foldl_cons,List.foldl_nil];unfold Zck;by_cases h:p≤c.at_∨c.at_+c.ln≤p
 · rw[if_neg (by show ¬((0:Int)<p - c.at_∧p - c.at_<c.ln);omega),if_pos h];rfl
 · rw[if_pos (by show(0:Int)<p - c.at_∧p - c.at_<c.ln;omega),if_neg h];unfold cutF;rw[if_neg (by show ¬p - c.at_=0;omega)];rfl
theorem cut_two (c:Cli){p q:Int}(h:p≤q):cutL c [p,q]=(Z2b p c).flatMap (Z2b q):=by
 unfold cutL;rw[List.foldl_cons,List.foldl_cons,List.foldl_nil];by_cases h1:p≤c.at_∨c.at_+c.ln≤p
 · have e1:Zck c (0,[]) p=(0,[]):=(by unfold Zck;rw[if_neg (by show ¬((0:Int)<p - c.at_∧p - c.at_<c.ln);omega)]);have e2:Z2b p c= [c]:=(by unfold Z2b;rw[if_pos h1]);rw[e1,e2,List.flatMap_singleton];exact cut_one c q
 ·
  have e1:Zck c (0,[]) p=(p - c.at_,[Z31 c 0 (p - c.at_)]):=by unfold Zck;rw[if_pos (by show(0:Int)<p - c.at_∧p - c.at_<c.ln;omega)];rfl
  have e2:Z2b p c= [Z31 c 0 (p - c.at_),Z31 c (p - c.at_) c.ln]:=by unfold Z2b;rw[if_neg h1]
  rw[e1,e2];have e3:Z2b q (Z31 c 0 (p - c.at_))= [Z31 c 0 (p - c.at_)]:=by unfold Z2b;rw[if_pos (by right;show c.at_+0+(p - c.at_ - 0)≤q;omega)]
  simp only[List.flatMap_cons,List.flatMap_nil,List.append_nil];rw[e3];by_cases h2:p - c.at_<q - c.at_∧q - c.at_<c.ln
  · have e4:Z2b q (Z31 c (p - c.at_) c.ln)= [Z31 c (p - c.at_) (q - c.at_),Z31 c (q - c.at_) c.ln]:=(by unfold Z2b;have ha:(Z31 c (p - c.at_) c.ln).at_=p:=(by show c.at_+(p - c.at_)=p;omega);have hl:(Z31 c (p - c.at_) c.ln).ln=c.ln - (p - c.at_):=rfl;rw[if_neg (by rw[ha,hl];omega),ha,hl,Z7m (by omega) (by omega) (by omega),Z7m (by omega) (by omega) (by omega)];rw[show p - c.at_+0=p - c.at_ by omega,show p - c.at_+(q - p)=q - c.at_ by omega,show p - c.at_+(c.ln - (p - c.at_))=c.ln by omega]);rw[e4];have e5:Zck c (p - c.at_,[Z31 c 0 (p - c.at_)]) q=(q - c.at_,[Z31 c 0 (p - c.at_),Z31 c (p - c.at_) (q - c.at_)]):=if_pos h2;rw[e5];unfold cutF;rw[if_neg (by show ¬q - c.at_=0;omega)];rfl
  · have e4:Z2b q (Z31 c (p - c.at_) c.ln)= [Z31 c (p - c.at_) c.ln]:=(by unfold Z2b;rw[if_pos (by show q≤c.at_+(p - c.at_)∨c.at_+(p - c.at_)+(c.ln - (p - c.at_))≤q;omega)]);rw[e4];have e5:Zck c (p - c.at_,[Z31 c 0 (p - c.at_)]) q=(p - c.at_,[Z31 c 0 (p - c.at_)]):=(by exact if_neg h2);rw[e5];unfold cutF;rw[if_neg (by show ¬p - c.at_=0;omega)]
theorem cpt_mem {zs:List Int}{x:Int}:x∈Lib.compact zs↔x∈zs:=by
 unfold Lib.compact Lib.compactUpTo;simp only[List.mem_map,List.mem_filter,List.mem_range];constructor
 · rintro⟨j,⟨h1,_⟩,rfl⟩;rw[getElem!_pos zs.toArray j (by simpa using h1)];simp
 ·
  intro hx
  have:∀n,∀j,j<zs.length→j≤n→zs.toArray[j]! =x→∃a,(a<zs.length∧Lib.keeps zs.toArray a=true)∧zs.toArray[a]! =x:=by
   intro n
   induction n with
   |zero=>intro j h1 h2 h3;exact⟨j,⟨h1,by unfold Lib.keeps;simp;left;omega⟩,h3⟩
   |succ n ih=>
    intro j h1 h2 h3;by_cases hk:Lib.keeps zs.toArray j=true
    · exact⟨j,⟨h1,hk⟩,h3⟩
    · unfold Lib.keeps at hk;have hk2:¬(j=0∨zs.toArray[j]! ≠zs.toArray[j - 1]!):=(by simpa only[decide_eq_true_eq]using hk);have h4:j≠0:=fun h=>hk2 (.inl h);have h5:zs.toArray[j]! =zs.toArray[j - 1]! :=Decidable.not_not.1 (fun h=>hk2 (.inr h));exact ih (j - 1) (by omega) (by omega) (by rw[←h5];exact h3)
  obtain⟨j,hj,he⟩:=List.getElem_of_mem hx;exact this j j hj (Zh _) (by rw[getElem!_pos zs.toArray j (by simpa using hj)];simpa using he)
theorem cpt_pw {zs:List Int}(h:zs.Pairwise (· ≤ ·)):(Lib.compact zs).Pairwise (· < ·):=by
 unfold Lib.compact Lib.compactUpTo;rw[List.pairwise_map];have h1:((List.range zs.length).filter (Lib.keeps zs.toArray)).Pairwise (fun a b=>a<b):=List.Pairwise.filter _ List.pairwise_lt_range;have h2:∀a∈(List.range zs.length).filter (Lib.keeps zs.toArray),a<zs.length∧Lib.keeps zs.toArray a=true:=fun a ha=>by rw[List.mem_filter,List.mem_range]at ha;exact ha
 refine(List.Pairwise.and_mem.1 h1).imp ?_;rintro a b ⟨ha,hb,hab⟩;obtain⟨hb1,hb2⟩:=h2 b hb
 have hle:∀i j (hi:i≤j) (hj:j<zs.length),zs.toArray[i]! ≤zs.toArray[j]! :=fun i j hi hj=>by
  rw[getElem!_pos zs.toArray i (by simp;omega),getElem!_pos zs.toArray j (by simpa using hj)];by_cases he:i=j
  · subst he;exact Int.le_refl _
  · simpa using(List.pairwise_iff_getElem.1 h) i j (by omega) hj (by omega)
 unfold Lib.keeps at hb2;have hb3:b=0∨zs.toArray[b]! ≠zs.toArray[b - 1]! :=by simpa only[decide_eq_true_eq]using hb2
 rcases hb3 with hb3|hb3
 · omega
 · have k1:=hle a (b - 1) (by omega) (by omega);have k2:=hle (b - 1) b (by omega) hb1;omega
def insL (bs:List Int)(n:Int):List Int:= [0,n - 1]++bs.filter (fun b=>decide (0<b∧b<n - 1))
def Z4j (bs:List Int)(n:Int):List Int:=Lib.compact ((insL bs n).mergeSort fun x y=>decide (x≤y))
theorem Z4k {bs:List Int}{n x:Int}:x∈Z4j bs n↔x=0∨x=n - 1∨(x∈bs∧0<x∧x<n - 1):=by
 unfold Z4j insL;rw[cpt_mem,(List.mergeSort_perm _ _).mem_iff,List.mem_append,List.mem_filter];simp only[List.mem_cons,List.not_mem_nil,or_false,decide_eq_true_eq];rw[or_assoc]
theorem Z9m (bs:List Int)(n:Int):(Z4j bs n).Pairwise (· < ·):=by
 refine cpt_pw ?_;have:=List.pairwise_mergeSort (le:=fun x y:Int=>decide (x≤y)) (by intro a b c h1 h2;simp at*;omega) (by intro a b;simp;omega) (insL bs n);exact this.imp (by intro x y h;simpa using h)
theorem Z4l {bs:List Int}{n x:Int}(hn:1≤n)(h:x∈Z4j bs n):0≤x∧x≤n - 1:=by
 rcases Z4k.1 h with h|h|h<;>omega
theorem Zaz (bs:List Int)(n:Int):(Z4j bs n).length≤bs.length+2:=by
 unfold Z4j Lib.compact Lib.compactUpTo;rw[List.length_map];refine Nat.le_trans (List.length_filter_le _ _) ?_;have h2:(insL bs n).length≤bs.length+2:=by unfold insL;rw[Zj];have:=List.length_filter_le (fun b=>decide (0<b∧b<n - 1)) bs;simp only[List.length_cons,List.length_nil];omega
 rw[List.length_range,List.length_mergeSort];exact h2
def Z3f (out:List Int)(i:Int):Nat→List Int
 |0=>out
 |m+1=>if out.length≤50 then Z3f (out++ [i]) (i+1) m else out
def Zcl (f:Int→Rat)(out:List Int)(a:Int):List Int:=if 0<a∧Z3p f a=true then out++ [a]else out
def Zeq (f:Int→Rat)(out:List Int)(a b:Int):List Int:=if 2≤b - a∧Z3p f (a+1)=true then Z3f (Zcl f out a) (a+1) (b - a - 1).toNat else Zcl f out a
def Z2g (f:Int→Rat):List Int→List Int→List Int
 |a::b::l,out=>Z2g f (b::l) (Zeq f out a b)
 |_,out=>out
def plnB (f:Int→Rat)(bs:List Int)(n:Nat):List Int:=if n=1 then [0]else orZero (Z2g f (Z4j bs n) (hdQ f n)++tlQ f n)
def Zer (f:Int→Rat)(bs:List Int)(n:Nat):List Pnt:=(plnB f bs n).map (Z0n f)
theorem Zb0 (a:Int):∀m,ivl a (m+1)=a::ivl (a+1) m
 |0=>by simp[ivl]
 |m+1=>by rw[ivl,Zb0 a m,ivl,List.cons_append];congr 3;push_cast;omega
theorem Zb1:∀(m:Nat) (out:List Int) (i:Int),Z3f out i m=out++ivl i m∨∃y z,ivl i m=y++z∧Z3f out i m=out++y∧50<(out++y).length
 |0,out,i=> .inl (by simp[Z3f,ivl])
 |m+1,out,i=>by
  rw[Z3f,Zb0];by_cases h:out.length≤50
  ·
   rw[if_pos h];rcases Zb1 m (out++ [i]) (i+1)with h1|⟨y,z,h1,h2,h3⟩
   · left;rw[h1,List.append_assoc];rfl
   · right;refine⟨i::y,z,by rw[h1];rfl,by rw[h2,List.append_assoc];rfl, ?_⟩;rw[List.append_assoc]at h3;exact h3
  · rw[if_neg h];right;exact⟨[],i::ivl (i+1) m,rfl,by simp,by simp;omega⟩
theorem seg_cap {f:Int→Rat}{out hd:List Int}{a:Nat}{b:Int}(h:Cap 50 out (hd++bUp f a))(hab:(a:Int)<b)(he:Evn f a b):Cap 50 (Zeq f out a b) (hd++bUp f b.toNat):=by
 have hA:Cap 50 (Zcl f out a) (hd++bUp f (a+1)):=by
  unfold Zcl;rw[bUp];by_cases h0:0<a∧Z3p f a=true
  · rw[if_pos (by exact⟨by omega,h0.2⟩),if_pos h0,←List.append_assoc];exact h.app _
  · rw[if_neg (by rintro⟨k1,k2⟩;exact h0 ⟨by omega,k2⟩),if_neg h0];exact h
 obtain⟨m,hm⟩:∃m:Nat,b=((a+1+m:Nat):Int):=⟨(b - a - 1).toNat,by omega⟩;have hb:b.toNat=a+1+m:=by omega
 unfold Zeq;rw[hb];by_cases h1:2≤b - a∧Z3p f (a+1)=true
 ·
  rw[if_pos h1,Zel (fun i hi hj=>by rw[he i (by omega) (by omega)];exact h1.2),←List.append_assoc,show(b - a - 1).toNat=m by omega];rcases Zb1 m (Zcl f out a) (a+1)with h2|⟨y,z,h2,h3,h4⟩
  · rw[h2];exact hA.app _
  · rw[h3];exact hA.cut (.inr ⟨⟨z,h2⟩,h4⟩)
 ·
  rw[if_neg h1,Zav (fun i hi hj=> ?_)]
  · exact hA
  ·
   rw[he i (by omega) (by omega)];cases hq:Z3p f (a+1)with
   |false=>rfl
   |true=>exact absurd ⟨by omega,hq⟩ h1
def EvnL (f:Int→Rat):List Int→Prop
 |a::b::l=>Evn f a b∧EvnL f (b::l)
 |_=>True
theorem Zb2 {f:Int→Rat}{hd:List Int}:∀(l:List Int) (a:Int) (out:List Int),(a::l).Pairwise (· < ·)→0≤a→EvnL f (a::l)→Cap 50 out (hd++bUp f a.toNat)→Cap 50 (Z2g f (a::l) out) (hd++bUp f ((a::l).getLast (by simp)).toNat)
 | [],a,out,_,_,_,h=>by simpa [Z2g]using h
 |b::l,a,out,hp,h0,he,h=>by have hab:a<b:=(List.pairwise_cons.1 hp).1 b (by simp);rw[Z2g,List.getLast_cons (by simp)];refine Zb2 l b _ (List.pairwise_cons.1 hp).2 (by omega) he.2 ?_;have e1:a=(a.toNat:Int):=(by omega);have:=seg_cap (f:=f) (out:=out) (hd:=hd) (a:=a.toNat) (b:=b) h (by omega) (by rw[←e1];exact he.1);rw[←e1]at this;exact this
theorem last_of {l:List Int}{m:Int}(hne:l≠ [])(hp:l.Pairwise (· < ·))(hm:m∈l)(h:∀x∈l,x≤m):l.getLast hne=m:=by
 have h1:=h _ (List.getLast_mem hne);obtain⟨k,hk,e⟩:=List.mem_iff_getElem.1 hm;rw[List.getLast_eq_getElem]at h1⊢;rcases Nat.lt_or_ge k (l.length - 1)with g|g
 · have:=(List.pairwise_iff_getElem.1 hp) k (l.length - 1) hk (by omega) g;omega
 · have:k=l.length - 1:=(by omega);subst this;exact e
theorem head_of {a:Int}{l:List Int}{m:Int}(hp:(a::l).Pairwise (· < ·))(hm:m∈a::l)(h:∀x∈a::l,m≤x):a=m:=by
 rcases List.mem_cons.1 hm with e|e
 · exact e.symm
 · have h1:=(List.pairwise_cons.1 hp).1 m e;have h2:=h a (by simp);omega
theorem plnB_cap {f:Int→Rat}{bs:List Int}{n:Nat}(hn:0<n)(he:EvnL f (Z4j bs n)):Cap 50 (plnB f bs n) (Z69 f n):=by
 unfold plnB;by_cases h1:n=1
 · rw[if_pos h1];subst h1;have:Z69 f 1= [0]:=(by simp[Z69,hdQ,tlQ,bUp,orZero]);rw[this];exact Cap.refl _ _
 ·
  rw[if_neg h1];unfold Z69;refine Cap.orZero (Cap.app ?_ _);have hp:=Z9m bs n;have h0:(0:Int)∈Z4j bs n:=Z4k.2 (.inl rfl);have hl:(n:Int) - 1∈Z4j bs n:=Z4k.2 (.inr (.inl rfl));have hr:∀x∈Z4j bs n,0≤x∧x≤(n:Int) - 1:=fun x hx=>Z4l (by omega) hx;cases hL:Z4j bs n with
  |nil=>rw[hL]at h0;simp at h0
  |cons a l=>
   rw[hL]at he hp h0 hl hr;have ha:a=0:=head_of hp h0 fun x hx=>(hr x hx).1;have hla:(a::l).getLast (by simp)=(n:Int) - 1:=last_of _ hp hl fun x hx=>(hr x hx).2;have:=Zb2 (f:=f) (hd:=hdQ f n) l a (hdQ f n) hp (by omega) he (by subst ha;simp[bUp];exact Cap.refl _ _);rw[hla,show((n:Int) - 1).toNat=n - 1 by omega]at this;exact this
theorem plnC_cap {f:Int→Rat}{bs:List Int}{n:Nat}(hn:0<n)(he:EvnL f (Z4j bs n)):Cap 50 (Zer f bs n) (Z5g f n):=(plnB_cap hn he).map _
theorem Zes {f:Int→Rat}:∀ {L:List Int},L.Pairwise (· < ·)→(∀a b,a∈L→b∈L→a<b→(∀x∈L,¬(a<x∧x<b))→Evn f a b)→EvnL f L
 | [],_,_=>trivial
 | [_],_,_=>trivial
 |a::b::l,hp,h=>by
  have hp2:=List.pairwise_cons.1 hp;have hp3:=List.pairwise_cons.1 hp2.2;have hab:=hp2.1 b (by simp);refine⟨h a b (by simp) (by simp) hab fun x hx=> ?_,Zes hp2.2 fun c d hc hd hcd hx=>h c d (List.mem_cons_of_mem _ hc) (List.mem_cons_of_mem _ hd) hcd fun x hm=> ?_⟩
  ·
   rcases List.mem_cons.1 hx with e|hx
   · omega
   ·
    rcases List.mem_cons.1 hx with e|hx
    · omega
    · have:=hp3.1 x hx;omega
  ·
   rcases List.mem_cons.1 hm with e|hm
   · have:=hp2.1 c hc;omega
   · exact hx x hm
theorem clip_evn {e:List Pnt}(h:Zbk e)(h0:0<e.length)(k:Int){n:Nat}(hn:0<n):EvnL (fun i=>Z38 e (i+k)) (Z4j (e.map fun p=>p.at_ - k) n):=by
 refine Zes (Z9m _ _) fun a b ha hb hab hx=>Aff.evn (Aff.shift (valQ_aff h h0 fun p hp=> ?_));rintro⟨h1,h2⟩;have ra:=Z4l (by omega) ha;have rb:=Z4l (by omega) hb;exact hx (p.at_ - k) (Z4k.2 (.inr (.inr ⟨List.mem_map.2 ⟨p,hp,rfl⟩,by omega,by omega⟩))) ⟨by omega,by omega⟩
def Z9n (c:Cli)(a b:Int):Cli:=⟨c.m,c.ch,c.fr+a,c.tr,c.at_+a,b - a,Zer (fun i=>Z38 c.e (i+a)) (c.e.map fun p=>p.at_ - a) (b - a).toNat⟩
theorem parK_cap {c:Cli}{a b:Int}(h:Zbk c.e)(h0:0<c.e.length)(hab:a<b):Cap 50 (Z9n c a b).e (Z31 c a b).e:=plnC_cap (by omega) (clip_evn h h0 a (by omega))
structure Pla where
 kept:List Cli
 gone:List Cli
 made:List Cli
def plaS (p:Pla)(c:Cli)(d:Option (List Cli)):Pla:=match d with
 |none=>⟨p.kept++ [c],p.gone,p.made⟩
 |some l=>⟨p.kept,p.gone++ [c],p.made++l⟩
def plaL (d:Nat→Cli→Option (List Cli)):List Cli→Nat→Pla→Pla
 | [],_,p=>p
 |c::cs,i,p=>plaL d cs (i+1) (plaS p c (d i c))
def plaF (d:Nat→Cli→Option (List Cli))(cs:List Cli):Pla:=plaL d cs 0 ⟨[],[],[]⟩
def outL (d:Nat→Cli→Option (List Cli)):List Cli→Nat→List Cli
 | [],_=> []
 |c::cs,i=>(d i c).getD [c]++outL d cs (i+1)
def plaX (p:Pla)(a b:Int):List Cli:=Z34 ((Z34 (p.kept++p.made)).map (shfC a b))
def plaT (p:Pla)(a b:Int):List Stp:=
 (if 0<p.gone.length then [⟨2,p.gone,0,0⟩]else [])++((if 0<p.made.length then [⟨1,p.made,0,0⟩]else [])++(if b≠0 then [⟨3,[],a,b⟩]else []))
def plaR (nm:ByteArray→Bool)(mx rt tk:Int)(p:Pla)(a b:Int):List Stp×Int:=
 if Z0y nm mx ⟨rt,tk,plaX p a b⟩≠0 then([],Z0y nm mx ⟨rt,tk,plaX p a b⟩)else(plaT p a b,0)
def EnvS (c:Cli):Prop:=Z3r c.ln c.e=0∨Z3r c.ln c.e=2
def Z8z (c d:Cli):Prop:=(c.m=d.m∧c.ch=d.ch∧c.fr=d.fr∧c.tr=d.tr∧c.at_=d.at_∧c.ln=d.ln)∧Cap 50 c.e d.e
theorem Z8z.refl (c:Cli):Z8z c c:=⟨⟨rfl,rfl,rfl,rfl,rfl,rfl⟩,Cap.refl _ _⟩
abbrev CapP:= {p:Cli×Cli // Z8z p.1 p.2}
def Z2p (l m:List Cli):Prop:=∃L:List CapP,l=L.map (fun p=>p.1.1)∧m=L.map (fun p=>p.1.2)
theorem Z2p.nil:Z2p [] []:=⟨[],rfl,rfl⟩
theorem Z2p.cons {c d:Cli}{l m:List Cli}(h:Z8z c d)(g:Z2p l m):Z2p (c::l) (d::m):=by
 obtain⟨L,rfl,rfl⟩:=g;exact⟨⟨(c,d),h⟩::L,rfl,rfl⟩
theorem Z2p.one {c d:Cli}(h:Z8z c d):Z2p [c] [d]:= .cons h .nil
theorem Z2p.app {l m l' m':List Cli}(h:Z2p l m)(g:Z2p l' m'):Z2p (l++l') (m++m'):=by
 obtain⟨L,rfl,rfl⟩:=h;obtain⟨M,rfl,rfl⟩:=g;exact⟨L++M,by rw[List.map_append],by rw[List.map_append]⟩
theorem Z2p.refl:∀l:List Cli,Z2p l l
 | []=> .nil
 |c::l=> .cons (.refl c) (Z2p.refl l)
theorem Z2p.flat {α:Type}{f g:α→List Cli}:∀ {l:List α},(∀x∈l,Z2p (f x) (g x))→Z2p (l.flatMap f) (l.flatMap g)
 | [],_=> .nil
 |x::l,h=>by rw[List.flatMap_cons,List.flatMap_cons];exact(h x (by simp)).app (Z2p.flat fun y hy=>h y (List.mem_cons_of_mem _ hy))
theorem Z2p.map {l m:List Cli}(h:Z2p l m){F:Cli→Cli}(hF:∀c d,Z8z c d→Z8z (F c) (F d)):Z2p (l.map F) (m.map F):=by
 obtain⟨L,rfl,rfl⟩:=h;refine⟨L.map fun p=>⟨(F p.1.1,F p.1.2),hF _ _ p.2⟩, ?_, ?_⟩
 · rw[List.map_map,List.map_map];rfl
 · rw[List.map_map,List.map_map];rfl
theorem Z2p.len {l m:List Cli}(h:Z2p l m):l.length=m.length:=by
 obtain⟨L,rfl,rfl⟩:=h;rw[List.length_map,List.length_map]
theorem Zb3 {a b c d:Cli}(h:Z8z a b)(g:Z8z c d):Z14 a c=Z14 b d:=by
 obtain⟨⟨h1,h2,h3,h4,h5,h6⟩,_⟩:=h;obtain⟨⟨g1,g2,g3,g4,g5,g6⟩,_⟩:=g;unfold Z14;rw[h1,h2,h3,h4,h5,h6,g1,g2,g3,g4,g5,g6]
section
variable {α:Type}{f g:α→Cli}
theorem Z6p (h:∀x y,Z14 (f x) (f y)=Z14 (g x) (g y))(c:α):∀l:List α,Z51 f (f c) l=Z51 g (g c) l
 | []=>rfl
 |a::l=>by rw[Z51,Z51,Z6p h c l,h a c]
theorem Zca (h:∀x y,Z14 (f x) (f y)=Z14 (g x) (g y))(l:List α):Z1b f l=Z1b g l:=by
 have:plc f=plc g:=by funext m c;unfold plc;rw[Z6p h]
 unfold Z1b;rw[this]
end
theorem Z2p.srt {l m:List Cli}(h:Z2p l m):Z2p (Z34 l) (Z34 m):=by
 obtain⟨L,rfl,rfl⟩:=h;refine⟨Z1b (fun p=>p.1.1) L, ?_, ?_⟩
 · exact(Z3c id (fun p:CapP=>p.1.1) L).symm
 · rw[Zca (f:=fun p:CapP=>p.1.1) (g:=fun p:CapP=>p.1.2) (fun x y=>Zb3 x.2 y.2)];exact(Z3c id (fun p:CapP=>p.1.2) L).symm
theorem cliF_cap {nm:ByteArray→Bool}{t:Int}{c d:Cli}(h:Z8z c d):Z3n nm t c=Z3n nm t d:=by
 obtain⟨⟨h1,h2,h3,h4,h5,h6⟩,h7⟩:=h;unfold Z3n cliR;rw[h1,h2,h3,h4,h5,h6,envF_cap h7]
theorem Z4m {f g:Nat→Int}:∀ {n:Nat},(∀i,i<n→f i=g i)→Z1c f n=Z1c g n
 |0,_=>rfl
 |n+1,h=>by rw[Z1c,Z1c,Z4m (n:=n) fun i hi=>h i (by omega),h n (by omega)]
theorem ediF_cap {nm:ByteArray→Bool}{mx r t:Int}{X Y:List Cli}(h:Z2p X Y):Z0y nm mx ⟨r,t,X⟩=Z0y nm mx ⟨r,t,Y⟩:=by
 have hl:=h.len;obtain⟨L,rfl,rfl⟩:=h;rw[List.length_map,List.length_map]at hl;have hg:∀i,i<L.length→Z8z ((L.map fun p=>p.1.1).getD i Z1g) ((L.map fun p=>p.1.2).getD i Z1g):=fun i hi=>by rw[Zg,Zg,List.getElem?_map,List.getElem?_map,Zi hi];exact L[i].2
 unfold Z0y;simp only[List.length_map]
 split
 · rfl
 ·
  split
  · rfl
  ·
   refine Z4m fun i hi=> ?_;unfold Za3;simp only;rw[cliF_cap (hg i hi)];by_cases h0:0<i
   · rw[Zb3 (hg (i - 1) (by omega)) (hg i hi)]
   · simp only[h0,false_and,if_false]
theorem capL_eq {X Y:List Cli}(h:Z2p X Y)(hx:∀c∈X,c.e.length≤50):X=Y:=by
 obtain⟨L,rfl,rfl⟩:=h;refine List.map_congr_left fun p hp=> ?_;have h1:=hx p.1.1 (List.mem_map.2 ⟨p,hp,rfl⟩);obtain⟨⟨c,d⟩,⟨k1,k2,k3,k4,k5,k6⟩,k7⟩:=p;simp only at k1 k2 k3 k4 k5 k6 k7 h1⊢
 have h2:d.e.length≤50:=by
  rcases Nat.lt_or_ge 50 d.e.length with g|g
  · have:=k7.2 g;omega
  · exact g
 have h3:=k7.1 h2;obtain⟨a1,a2,a3,a4,a5,a6,a7⟩:=c;obtain⟨b1,b2,b3,b4,b5,b6,b7⟩:=d;simp only at k1 k2 k3 k4 k5 k6 h3;subst k1 k2 k3 k4 k5 k6 h3;rfl
theorem ratF_pnt (f:Int→Rat)(i:Int):Z2h (Z0n f i).n (Z0n f i).d=0∨Z2h (Z0n f i).n (Z0n f i).d=2:=by
 obtain⟨h1,h2⟩:=Z64 (f i);obtain⟨a1,a2,a3,a4⟩:=Z1d (f i).num.natAbs;obtain⟨b1,b2,b3,b4⟩:=Z1d (f i).den;have hd:(Z0n f i).d.data.toList=Lib.decDigits (f i).den:=by show(Zbl (f i)).toArray.toList=_;rw[List.toList_toArray];rfl
 have hn:boT (Z0n f i).n=Lib.decDigits (f i).num.natAbs:=h2;have hs:sgT (Z0n f i).n=decide ((f i).num<0):=h1;have hnz:∀u:Nat,noZ (Lib.decDigits u)=true:=fun u=>by obtain⟨c1,c2,c3,c4⟩:=Z1d u;refine(Z0p _).2 ⟨c1,by intro e;rw[e]at c3;simp at c3,fun e=> ?_⟩;rw[c4 e,Lib.decDigits,dif_pos (by omega)];rfl
 have hf:Z8x (Z0n f i).n (Z0n f i).d=true:=by
  unfold Z8x;rw[hn,hd,hs,hnz,hnz];have e1:decide (Lib.decDigits (f i).den= [48])=false:=by rw[decide_eq_false_iff_not];intro e;have:=(f i).den_pos;rw[e]at b2;have:Z0e [48]=0:=(by decide);omega
  have e2:(decide ((f i).num<0) && decide (Lib.decDigits (f i).num.natAbs= [48]))=false:=by
   rw[Bool.and_eq_false_iff,decide_eq_false_iff_not,decide_eq_false_iff_not];by_cases h:(f i).num<0
   · right;intro e;rw[e]at a2;have:Z0e [48]=0:=(by decide);omega
   · exact .inl h
  rw[e1,e2];rfl
 unfold Z2h;rw[hf,hn,hd,a2,b2];rw[if_neg (by decide)]
 split
 · exact .inr rfl
 · rw[if_pos (f i).reduced];exact .inl rfl
theorem plnE_inc (f:Int→Rat)(n:Nat)(k:Nat)(hk:k+1<(Z5g f n).length):((Z5g f n).getD k Z0j).at_<((Z5g f n).getD (k+1) Z0j).at_:=by
 unfold Z5g at hk⊢;rw[List.length_map]at hk;have h:=(List.pairwise_iff_getElem.1 (pln_pw f n)) k (k+1) (by omega) hk (by omega);rw[Zg,Zg,List.getElem?_map,List.getElem?_map,Zi hk,Zi (show k<(Z69 f n).length by omega)];exact h
theorem Z8k {c:Cli}{a b:Int}(h:Zbk c.e)(h0:0<c.e.length)(hab:a<b):Z8z (Z9n c a b) (Z31 c a b):=⟨⟨rfl,rfl,rfl,rfl,rfl,rfl⟩,parK_cap h h0 hab⟩
def Z1j (c:Cli)(s:Int×List Cli)(p:Int):Int×List Cli:=if s.1<p - c.at_∧p - c.at_<c.ln then(p - c.at_,s.2++ [Z9n c s.1 (p - c.at_)])else s
def Z4u (c:Cli)(s:Int×List Cli):List Cli:=if s.1=0 then [c]else s.2++ [Z9n c s.1 c.ln]
def Zet (c:Cli)(ps:List Int):List Cli:=Z4u c (ps.foldl (Z1j c) (0,[]))
structure CliG (c:Cli):Prop where
 i:Zbk c.e
 n:0<c.e.length
 l:1≤c.ln
theorem Zeu {nm:ByteArray→Bool}{tk:Int}{c:Cli}(h:Z3n nm tk c=0):CliG c:=by
 have h1:=Z5d h;have h2:=Z5o h;exact⟨Z42 h1,(Z1k h1).1,h2.r.2.2.2.2.1.1⟩
theorem cutS_cap {c:Cli}(h:CliG c){s s':Int×List Cli}(p:Int)(h1:s.1=s'.1)(_h2:0≤s.1∧s.1<c.ln)(h3:Z2p s.2 s'.2):(Z1j c s p).1=(Zck c s' p).1∧(s.1≤(Z1j c s p).1∧(Z1j c s p).1<c.ln)∧Z2p (Z1j c s p).2 (Zck c s' p).2:=by
 unfold Z1j Zck;rw[←h1];by_cases g:s.1<p - c.at_∧p - c.at_<c.ln
 · rw[if_pos g,if_pos g];exact⟨rfl,⟨by omega,g.2⟩,h3.app (.one (Z8k h.i h.n g.1))⟩
 · rw[if_neg g,if_neg g];exact⟨h1,⟨Int.le_refl _,_h2.2⟩,h3⟩
theorem Zb4 {c:Cli}(h:CliG c):∀(ps:List Int) (s s':Int×List Cli),s.1=s'.1→(0≤s.1∧s.1<c.ln)→Z2p s.2 s'.2→Z2p (Z4u c (ps.foldl (Z1j c) s)) (cutF c (ps.foldl (Zck c) s'))
 | [],s,s',h1,h2,h3=>by
  show Z2p (Z4u c s) (cutF c s');unfold Z4u cutF;rw[←h1];by_cases g:s.1=0
  · rw[if_pos g,if_pos g];exact .refl _
  · rw[if_neg g,if_neg g];exact h3.app (.one (Z8k h.i h.n h2.2))
 |p::ps,s,s',h1,h2,h3=>by obtain⟨k1,k2,k3⟩:=cutS_cap h p h1 h2 h3;exact Zb4 h ps _ _ k1 ⟨by omega,k2.2⟩ k3
theorem cutK_cap {c:Cli}(h:CliG c)(ps:List Int):Z2p (Zet c ps) (cutL c ps):=Zb4 h ps (0,[]) (0,[]) rfl ⟨Int.le_refl _,by have:=h.l;show 0<c.ln;omega⟩ .nil
theorem cutK_mem {c:Cli}(h:CliG c)(ps:List Int):∀y∈Zet c ps,y=c∨∃a b,0≤a∧a<b∧b≤c.ln∧y=Z9n c a b:=by
 have key:∀(ps:List Int) (s:Int×List Cli),(0≤s.1∧s.1<c.ln)→(∀y∈s.2,y=c∨∃a b,0≤a∧a<b∧b≤c.ln∧y=Z9n c a b)→∀y∈Z4u c (ps.foldl (Z1j c) s),y=c∨∃a b,0≤a∧a<b∧b≤c.ln∧y=Z9n c a b:=by
  intro ps
  induction ps with
  |nil=>
   intro s h1 h2 y hy;have hy:y∈Z4u c s:=hy;unfold Z4u at hy
   split at hy
   · exact .inl (List.mem_singleton.1 hy)
   ·
    rcases List.mem_append.1 hy with hy|hy
    · exact h2 y hy
    · exact .inr ⟨s.1,c.ln,h1.1,h1.2,Int.le_refl _,List.mem_singleton.1 hy⟩
  |cons p ps ih=>
   intro s h1 h2 y hy;refine ih (Z1j c s p) ?_ ?_ y hy
   ·
    unfold Z1j
    split
    · rename_i g;exact⟨by show 0≤p - c.at_;omega,g.2⟩
    · exact h1
   ·
    unfold Z1j
    split
    ·
     rename_i g
     intro z hz;rcases List.mem_append.1 hz with hz|hz
     · exact h2 z hz
     · exact .inr ⟨s.1,p - c.at_,h1.1,g.1,by omega,List.mem_singleton.1 hz⟩
    · exact h2
 exact key ps (0,[]) ⟨Int.le_refl _,by have:=h.l;show 0<c.ln;omega⟩ (fun y hy=>by simp at hy)
theorem Z8l:∀(m:Nat) (out:List Int) (i:Int),(Z3f out i m).length≤max out.length 51
 |0,out,i=>by rw[Z3f];omega
 |m+1,out,i=>by
  rw[Z3f]
  split
  · refine Nat.le_trans (Z8l m _ _) ?_;rw[Zj,List.length_singleton];omega
  · omega
theorem Zb5 (f:Int→Rat)(out:List Int)(a b:Int):(Zeq f out a b).length≤max (out.length+1) 51:=by
 have h1:(Zcl f out a).length≤out.length+1:=by unfold Zcl;split<;>simp
 unfold Zeq
 split
 · refine Nat.le_trans (Z8l _ _ _) ?_;omega
 · omega
theorem Z8m (f:Int→Rat):∀(l:List Int) (out:List Int),(Z2g f l out).length≤max out.length 51+l.length
 | [],out=>by simp[Z2g];omega
 | [_],out=>by simp[Z2g];omega
 |a::b::l,out=>by rw[Z2g];have h1:=Z8m f (b::l) (Zeq f out a b);have h2:=Zb5 f out a b;simp only[List.length_cons]at h1⊢;omega
theorem plnB_len (f:Int→Rat)(bs:List Int)(n:Nat):(plnB f bs n).length≤bs.length+60:=by
 unfold plnB
 split
 · simp
 ·
  have h1:=Z8m f (Z4j bs n) (hdQ f n);have h2:=Zaz bs n;have h3:(hdQ f n).length≤1:=by unfold hdQ;split<;>simp
  have h4:(tlQ f n).length≤1:=by unfold tlQ;split<;>simp
  unfold orZero
  split
  · simp
  · rw[Zj];omega
theorem plnC_len (f:Int→Rat)(bs:List Int)(n:Nat):(Zer f bs n).length≤bs.length+60:=by unfold Zer;rw[List.length_map];exact plnB_len f bs n
def splD (p:Int)(_:Nat)(c:Cli):Option (List Cli):=if p≤c.at_∨c.at_+c.ln≤p then none else some (Zet c [p])
def SplitQ (nm:ByteArray→Bool)(mx:Int)(e:Edt)(p:Int):List Stp×Int:=
 if Z0y nm mx e≠0 then([],Z0y nm mx e)else if p<0∨100000<p then([],1)else plaR nm mx e.rate e.tracks (plaF (splD p) e.cs) 0 0
def SplitE (nm:ByteArray→Bool)(mx:Int)(e:Edt)(p:Int):Edt×Int:=
 if Z0y nm mx e≠0 then(e0,Z0y nm mx e)else if p<0∨100000<p then(e0,1)else mkE nm mx ⟨e.rate,e.tracks,Z34 (e.cs.flatMap (Z2b p))⟩
theorem mkE_cap {nm:ByteArray→Bool}{mx r t:Int}{X Y:List Cli}(h:Z2p X Y):mkE nm mx ⟨r,t,X⟩=mkE nm mx ⟨r,t,Y⟩:=by
 have hf:=ediF_cap (nm:=nm) (mx:=mx) (r:=r) (t:=t) h;by_cases h0:Z0y nm mx ⟨r,t,X⟩=0
 · have:X=Y:=capL_eq h fun c hc=>(Z1k (Z5d (Z5c h0 c hc))).2.1;rw[this]
 · rw[Z7h h0,Z7h (by rw[←hf];exact h0),hf]
def Z3w (a b:Int)(c:Cli):Bool:=decide (a≤c.at_∧c.at_+c.ln≤b)
def Z9o (a b:Int)(c:Cli):List Cli:=((Zet c [a,b]).filter (Z3w a b)).map (Z4h (-a))
def extR (a b:Int)(c:Cli):List Cli:=(((Z2b a c).flatMap (Z2b b)).filter (Z3w a b)).map (Z4h (-a))
theorem Z2p.filter {l m:List Cli}(h:Z2p l m){p:Cli→Bool}(hp:∀c d,Z8z c d→p c=p d):Z2p (l.filter p) (m.filter p):=by
 obtain⟨L,rfl,rfl⟩:=h
 induction L with
 |nil=>exact .nil
 |cons x L ih=>
  rw[List.map_cons,List.map_cons];have e:=hp _ _ x.2;cases hx:p x.1.1 with
  |true=>
   rw[List.filter_cons_of_pos hx,List.filter_cons_of_pos (by rw[←e];exact hx)];exact .cons x.2 ih
  |false=>
   rw[List.filter_cons_of_neg (by rw[hx];decide),List.filter_cons_of_neg (by rw[←e,hx];decide)];exact ih
theorem insD_cap {a b:Int}(c d:Cli)(h:Z8z c d):Z3w a b c=Z3w a b d:=by
 unfold Z3w;rw[h.1.2.2.2.2.1,h.1.2.2.2.2.2]
theorem movC_cap {a:Int}(c d:Cli)(h:Z8z c d):Z8z (Z4h a c) (Z4h a d):=by
 obtain⟨⟨h1,h2,h3,h4,h5,h6⟩,h7⟩:=h;exact⟨⟨h1,h2,h3,h4,by show _+_=_+_;rw[h5],h6⟩,h7⟩
theorem ext_cap {c:Cli}(h:CliG c){a b:Int}(hab:a≤b):Z2p (Z9o a b c) (extR a b c):=by
 unfold Z9o extR;rw[←cut_two c hab];exact((cutK_cap h [a,b]).filter fun c d h=>insD_cap c d h).map fun c d h=>movC_cap c d h
def Z15 (a b:Int):Int:=if a<0∨100000<b∨b<a then 1 else 0
def extQ (nm:ByteArray→Bool)(mx:Int)(e:Edt)(a b:Int):Edt×Int:=
 if Z0y nm mx e≠0 then(e0,Z0y nm mx e)else if Z15 a b≠0 then(e0,Z15 a b)else mkE nm mx ⟨e.rate,e.tracks,Z34 (e.cs.flatMap (Z9o a b))⟩
def extE (nm:ByteArray→Bool)(mx:Int)(e:Edt)(a b:Int):Edt×Int:=
 if Z0y nm mx e≠0 then(e0,Z0y nm mx e)else if Z15 a b≠0 then(e0,Z15 a b)else mkE nm mx ⟨e.rate,e.tracks,Z34 ((((e.cs.flatMap (Z2b a)).flatMap (Z2b b)).filter (Z3w a b)).map (Z4h (-a)))⟩
theorem Zb6 (a b:Int):∀cs:List Cli,(((cs.flatMap (Z2b a)).flatMap (Z2b b)).filter (Z3w a b)).map (Z4h (-a))=cs.flatMap (extR a b)
 | []=>rfl
 |c::cs=>by rw[List.flatMap_cons,List.flatMap_append,List.filter_append,List.map_append,Zb6 a b cs,List.flatMap_cons];rfl
theorem ext_eq {nm:ByteArray→Bool}{mx:Int}(e:Edt)(a b:Int):extQ nm mx e a b=extE nm mx e a b:=by
 unfold extQ extE;by_cases h0:Z0y nm mx e≠0
 · rw[if_pos h0,if_pos h0]
 ·
  rw[if_neg h0,if_neg h0];by_cases h1:Z15 a b≠0
  · rw[if_pos h1,if_pos h1]
  ·
   rw[if_neg h1,if_neg h1];have he:Z0y nm mx e=0:=Decidable.not_not.1 h0
   have hab:a≤b:=by
    unfold Z15 at h1
    split at h1
    · exact absurd (by decide) h1
    · omega
   refine mkE_cap (Z2p.srt ?_);rw[Zb6];exact Z2p.flat fun c hc=>ext_cap (Zeu (Z5c he c hc)) hab
end Go.Dw
