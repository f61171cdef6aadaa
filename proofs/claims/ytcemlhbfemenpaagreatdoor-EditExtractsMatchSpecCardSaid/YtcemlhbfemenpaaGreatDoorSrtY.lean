/- Several texts laid into one: Plain: a sort that keeps equal elements in order: insertion sort by blocks, then merges by rotations; Plain: clips put in order; those that agree stay in the order in which they were; -/
import Derived.Sort.LotA
import Derived.Test.YtcemlhbfemenpaaGreatDoorPlnZ
namespace Go.Stb
open Go.Sort
variable {α:Type}[Inhabited α]
def Z1i (a b:Nat):Nat→Array α→Array α
 |0,d=>d
 |n+1,d=>swp (Z1i a b n d) (a+n) (b+n)
theorem Z2m (a b:Nat):∀(n:Nat) (d:Array α),(Z1i a b n d).size=d.size
 |0,_=>rfl
 |n+1,d=>by rw[Z1i,size_swp,Z2m a b n d]
theorem Z4c {a b:Nat}:∀ {n:Nat} {d:Array α},a+n≤b→b+n≤d.size→∀x,(Z1i a b n d)[x]! =if a≤x∧x<a+n then d[x - a+b]! else if b≤x∧x<b+n then d[x - b+a]! else d[x]!
 |0,d,_,_,x=>by rw[Z1i,if_neg (by omega),if_neg (by omega)]
 |n+1,d,h1,h2,x=>by
  have ih:=Z4c (a:=a) (b:=b) (n:=n) (d:=d) (by omega) (by omega);have hs:=Z2m a b n d;rw[Z1i];by_cases e1:x=a+n
  · subst e1;rw[swp_left _ _ _ (by omega) (by omega),ih,if_neg (by omega),if_neg (by omega),if_pos (by omega)];congr 1;omega
  ·
   by_cases e2:x=b+n
   · subst e2;rw[swp_right _ _ _ (by omega),ih,if_neg (by omega),if_neg (by omega),if_neg (by omega),if_pos (by omega)];congr 1;omega
   ·
    rw[swp_other _ _ _ _ e1 e2,ih];by_cases c1:a≤x∧x<a+n
    · rw[if_pos c1,if_pos (by omega)]
    ·
     rw[if_neg c1];by_cases c2:b≤x∧x<b+n
     · rw[if_pos c2,if_neg (by omega),if_pos (by omega)]
     · rw[if_neg c2,if_neg (by omega),if_neg (by omega)]
theorem Z3l {a b lo hi:Nat}:∀ {n:Nat} {d:Array α},lo≤a→a+n≤hi→lo≤b→b+n≤hi→hi≤d.size→PermIn lo hi d (Z1i a b n d)
 |0,d,_,_,_,_,_=>permIn_refl d lo hi
 |n+1,d,h1,h2,h3,h4,h5=>by have ih:=Z3l (a:=a) (b:=b) (lo:=lo) (hi:=hi) (n:=n) (d:=d) h1 (by omega) h3 (by omega) h5;rw[Z1i];exact permIn_trans _ _ _ _ _ ih (swp_permIn _ _ _ _ _ (by omega) (by omega) (by omega) (by omega) (by rw[Z2m];exact h5))
def blk (m i j:Nat)(d:Array α)(x:Nat):α:=if m - i≤x∧x<m - i+j then d[x+i]! else if m - i+j≤x∧x<m+j then d[x - j]! else d[x]!
theorem blk_gt {m i j:Nat}{d:Array α}(hi:i≤m)(hj:m+j≤d.size)(h:j<i)(x:Nat):blk m (i - j) j (Z1i (m - i) m j d) x=blk m i j d x:=by
 have g:=Z4c (a:=m - i) (b:=m) (n:=j) (d:=d) (by omega) (by omega);unfold blk;by_cases c1:m - i≤x∧x<m - i+j
 · rw[if_pos c1,if_neg (by omega),if_neg (by omega),g,if_pos (by omega)];congr 1;omega
 ·
  rw[if_neg c1];by_cases c2:m - i+j≤x∧x<m+j
  ·
   rw[if_pos c2];by_cases c3:x<m - i+j+j
   · rw[if_pos (by omega),g,if_neg (by omega),if_pos (by omega)];congr 1;omega
   · rw[if_neg (by omega),if_pos (by omega),g,if_neg (by omega),if_neg (by omega)]
  · rw[if_neg c2,if_neg (by omega),if_neg (by omega),g,if_neg (by omega),if_neg (by omega)]
theorem blk_lt {m i j:Nat}{d:Array α}(hi:i≤m)(hj:m+j≤d.size)(h:i<j)(x:Nat):blk m i (j - i) (Z1i (m - i) (m+j - i) i d) x=blk m i j d x:=by
 have g:=Z4c (a:=m - i) (b:=m+j - i) (n:=i) (d:=d) (by omega) (by omega);unfold blk;by_cases c1:m - i≤x∧x<m - i+j
 ·
  rw[if_pos c1];by_cases c3:x<m - i+(j - i)
  · rw[if_pos (by omega),g,if_neg (by omega),if_neg (by omega)]
  · rw[if_neg (by omega),if_pos (by omega),g,if_pos (by omega)];congr 1;omega
 ·
  rw[if_neg c1];by_cases c2:m - i+j≤x∧x<m+j
  · rw[if_pos c2,if_neg (by omega),if_neg (by omega),g,if_neg (by omega),if_pos (by omega)];congr 1;omega
  · rw[if_neg c2,if_neg (by omega),if_neg (by omega),g,if_neg (by omega),if_neg (by omega)]
theorem blk_eq {m i:Nat}{d:Array α}(hi:i≤m)(hj:m+i≤d.size)(x:Nat):(Z1i (m - i) m i d)[x]! =blk m i i d x:=by
 rw[Z4c (by omega) hj];unfold blk;by_cases c1:m - i≤x∧x<m - i+i
 · rw[if_pos c1,if_pos c1];congr 1;omega
 ·
  rw[if_neg c1,if_neg c1];by_cases c2:m≤x∧x<m+i
  · rw[if_pos c2,if_pos (by omega)];congr 1;omega
  · rw[if_neg c2,if_neg (by omega)]
theorem blk_zl (m j:Nat)(d:Array α)(x:Nat):blk m 0 j d x=d[x]! :=by
 unfold blk;by_cases c1:m - 0≤x∧x<m - 0+j
 · rw[if_pos c1];rfl
 · rw[if_neg c1,if_neg (by omega)]
theorem blk_zr (m i:Nat)(d:Array α)(x:Nat):blk m i 0 d x=d[x]! :=by
 unfold blk;rw[if_neg (by omega)]
 split<;>rfl
def Tl (lt:α→α→Bool)(tag:α→Nat)(x y:α):Bool:=lt x y||(!lt y x && decide (tag x<tag y))
section
variable {lt:α→α→Bool}{tag:α→Nat}
omit [Inhabited α]in
theorem Z2n {u v:α}(h:tag u<tag v):Tl lt tag v u=lt v u:=by
 unfold Tl;have:decide (tag v<tag u)=false:=by simpa using Nat.le_of_lt h
 rw[this];simp
omit [Inhabited α]in
theorem Z89 (h:SWO lt){x y:α}(hxy:lt x y=true):lt y x=false:=by
 cases hyx:lt y x with
 |false=>rfl
 |true=>have:=h.trans x y x hxy hyx;rw[h.irrefl]at this;cases this
omit [Inhabited α]in
theorem Zaj (h:SWO lt):SWO (Tl lt tag):=by
 have key:∀x y z,lt x y=true→lt z y=false→lt x z=true:=fun x y z h1 h2=>by
  cases hxz:lt x z with
  |true=>rfl
  |false=>have:=h.ntrans x z y hxz h2;rw[h1]at this;cases this
 have key2:∀x y z,lt y x=false→lt y z=true→lt x z=true:=fun x y z h1 h2=>by
  cases hxz:lt x z with
  |true=>rfl
  |false=>have:=h.ntrans y x z h1 hxz;rw[h2]at this;cases this
 refine⟨fun x=>by unfold Tl;rw[h.irrefl];simp,fun x y z h1 h2=> ?_,fun x y z h1 h2=> ?_⟩
 ·
  unfold Tl at*;simp only[Bool.or_eq_true,Bool.and_eq_true,Bool.not_eq_true',decide_eq_true_eq]at*;rcases h1 with h1|⟨h1,t1⟩
  ·
   rcases h2 with h2|⟨h2,t2⟩
   · exact .inl (h.trans _ _ _ h1 h2)
   · exact .inl (key _ _ _ h1 h2)
  ·
   rcases h2 with h2|⟨h2,t2⟩
   · exact .inl (key2 _ _ _ h1 h2)
   · exact .inr ⟨h.ntrans _ _ _ h2 h1,by omega⟩
 ·
  unfold Tl at*;simp only[Bool.or_eq_false_iff,Bool.and_eq_false_iff,Bool.not_eq_false',decide_eq_false_iff_not]at*;obtain⟨a1,a2⟩:=h1;obtain⟨b1,b2⟩:=h2;refine⟨h.ntrans _ _ _ a1 b1, ?_⟩;rcases a2 with a2|a2
  ·
   exact .inl (by
    cases hzx:lt z x with
    |true=>rfl
    |false=>have:=h.ntrans _ _ _ b1 hzx;rw[a2]at this;cases this)
  ·
   rcases b2 with b2|b2
   ·
    exact .inl (by
     cases hzx:lt z x with
     |true=>rfl
     |false=>have:=h.ntrans _ _ _ hzx a1;rw[b2]at this;cases this)
   ·
    cases hzx:lt z x with
    |true=>exact .inl rfl
    |false=>exact .inr (by omega)
end
structure Runs (lt:α→α→Bool)(tag:α→Nat)(a m b:Nat)(d:Array α):Prop where
 l:SortedIn (Tl lt tag) a m d
 r:SortedIn (Tl lt tag) m b d
 t:∀x y,a≤x→x<m→m≤y→y<b→tag d[x]! <tag d[y]!
section
variable {lt:α→α→Bool}{tag:α→Nat}{a m b:Nat}{d:Array α}
theorem Z1s (h:SWO lt)(hs:SortedIn lt a b d){i j:Nat}(hi:a≤i)(hij:i≤j)(hj:j<b):lt d[j]! d[i]! =false:=by
 rcases Nat.lt_or_eq_of_le hij with h1|h1
 · exact hs i j hi h1 hj
 · subst h1;exact h.irrefl _
structure Cut (lt:α→α→Bool)(tag:α→Nat)(a m b:Nat)(d:Array α)(s e:Nat):Prop where
 as:a≤s
 sm:s≤m
 me:m≤e
 eb:e≤b
 lo:a<s→e<b→Tl lt tag d[e]! d[s - 1]! =false
 hi:s<m→m<e→lt d[e - 1]! d[s]! =true
theorem Z5x (hO:SWO lt)(R:Runs lt tag a m b d)(h:a<m→m<b→Tl lt tag d[m]! d[m - 1]! =false):SortedIn (Tl lt tag) a b d:=by
 have hT:=Zaj (tag:=tag) hO;intro i j hi hij hj;by_cases h1:j<m
 · exact R.l i j hi hij h1
 ·
  by_cases h2:m≤i
  · exact R.r i j h2 hij hj
  · have e1:Tl lt tag d[m - 1]! d[i]! =false:=Z1s hT R.l hi (by omega) (by omega);have e2:Tl lt tag d[j]! d[m]! =false:=Z1s hT R.r (Nat.le_refl _) (by omega) hj;exact hT.ntrans _ _ _ e2 (hT.ntrans _ _ _ (h (by omega) (by omega)) e1)
theorem Z7e (hO:SWO lt)(R:Runs lt tag a m b d){s e:Nat}(C:Cut lt tag a m b d s e){d1:Array α}(hd:∀x,d1[x]! =blk m (m - s) (e - m) d x):
  Runs lt tag a s (s+(e - m)) d1∧Runs lt tag (s+(e - m)) e b d1∧(∀x y,a≤x→x<s+(e - m)→s+(e - m)≤y→y<b→Tl lt tag d1[y]! d1[x]! =false):=by
 have hT:=Zaj (tag:=tag) hO;obtain⟨c1,c2,c3,c4,c5,c6⟩:=C;have g1:∀x,x<s→d1[x]! =d[x]! :=fun x hx=>by rw[hd];unfold blk;rw[if_neg (by omega),if_neg (by omega)]
 have g2:∀x,s≤x→x<s+(e - m)→d1[x]! =d[x+(m - s)]! :=fun x h1 h2=>by rw[hd];unfold blk;rw[if_pos (by omega)]
 have g3:∀x,s+(e - m)≤x→x<e→d1[x]! =d[x - (e - m)]! :=fun x h1 h2=>by rw[hd];unfold blk;rw[if_neg (by omega),if_pos (by omega)]
 have g4:∀x,e≤x→d1[x]! =d[x]! :=fun x hx=>by rw[hd];unfold blk;rw[if_neg (by omega),if_neg (by omega)]
 refine⟨⟨?_, ?_, ?_⟩,⟨?_, ?_, ?_⟩, ?_⟩
 · intro i j hi hij hj;rw[g1 i (by omega),g1 j hj];exact R.l i j hi hij (by omega)
 · intro i j hi hij hj;rw[g2 i hi (by omega),g2 j (by omega) hj];exact R.r _ _ (by omega) (by omega) (by omega)
 · intro x y h1 h2 h3 h4;rw[g1 x h2,g2 y h3 h4];exact R.t _ _ h1 (by omega) (by omega) (by omega)
 · intro i j hi hij hj;rw[g3 i hi (by omega),g3 j (by omega) hj];exact R.l _ _ (by omega) (by omega) (by omega)
 · intro i j hi hij hj;rw[g4 i hi,g4 j (by omega)];exact R.r _ _ (by omega) hij hj
 · intro x y h1 h2 h3 h4;rw[g3 x h1 h2,g4 y h3];exact R.t _ _ (by omega) (by omega) (by omega) h4
 ·
  intro x y h1 h2 h3 h4;by_cases hx:x<s
  ·
   rw[g1 x hx];by_cases hy:y<e
   · rw[g3 y h3 hy];exact Z1s hT R.l h1 (by omega) (by omega)
   · rw[g4 y (by omega)];have e1:Tl lt tag d[s - 1]! d[x]! =false:=Z1s hT R.l h1 (by omega) (by omega);have e2:Tl lt tag d[y]! d[e]! =false:=Z1s hT R.r (by omega) (by omega) h4;exact hT.ntrans _ _ _ e2 (hT.ntrans _ _ _ (c5 (by omega) (by omega)) e1)
  ·
   rw[g2 x (by omega) h2];by_cases hy:y<e
   · rw[g3 y h3 hy];have e0:Tl lt tag d[e - 1]! d[s]! =true:=(by rw[Z2n (R.t _ _ c1 (by omega) (by omega) (by omega))];exact c6 (by omega) (by omega));have e0':Tl lt tag d[s]! d[e - 1]! =false:=Z89 hT e0;have e1:Tl lt tag d[e - 1]! d[x+(m - s)]! =false:=Z1s hT R.r (by omega) (by omega) (by omega);have e2:Tl lt tag d[y - (e - m)]! d[s]! =false:=Z1s hT R.l c1 (by omega) (by omega);exact hT.ntrans _ _ _ e2 (hT.ntrans _ _ _ e0' e1)
   · rw[g4 y (by omega)];exact Z1s hT R.r (by omega) (by omega) h4
theorem Z7f {m1:Nat}{d1 d2 d3:Array α}(h1:a≤m1)(h2:m1≤b)(hb:b≤d1.size)(hx:∀x y,a≤x→x<m1→m1≤y→y<b→lt d1[y]! d1[x]! =false)
  (p2:PermIn a m1 d1 d2) (s2:SortedIn lt a m1 d2) (p3:PermIn m1 b d2 d3) (s3:SortedIn lt m1 b d3):PermIn a b d1 d3∧SortedIn lt a b d3:=by
 have z2:=p2.1;have z3:=p3.1;have q2:PermIn a b d1 d2:=permIn_mono _ _ _ _ _ _ (Nat.le_refl _) h2 hb p2;have q3:PermIn a b d2 d3:=permIn_mono _ _ _ _ _ _ h1 (Nat.le_refl _) (by omega) p3;refine⟨permIn_trans _ _ _ _ _ q2 q3, ?_⟩
 have k2:∀y,m1≤y→y<b→∀x,a≤x→x<m1→lt d1[y]! d2[x]! =false:=fun y hy hyb=>
  permIn_all _ _ _ _ (fun v=>lt d1[y]! v=false) (by omega) p2 (fun x hxa hxm=>hx x y hxa hxm hy hyb)
 have k3:∀x,a≤x→x<m1→∀y,m1≤y→y<b→lt d3[y]! d2[x]! =false:=fun x hxa hxm=>
  permIn_all _ _ _ _ (fun v=>lt v d2[x]! =false) (by omega) p3 (fun y hy hyb=>by
   rw[p2.2.1 y (.inr hy)];exact k2 y hy hyb x hxa hxm)
 intro i j hi hij hj;by_cases c1:j<m1
 · rw[p3.2.1 i (.inl (by omega)),p3.2.1 j (.inl c1)];exact s2 i j hi hij c1
 ·
  by_cases c2:m1≤i
  · exact s3 i j c2 hij hj
  · rw[p3.2.1 i (.inl (by omega))];exact k3 i hi (by omega) j (by omega) hj
theorem Z4d {m1:Nat}(R:Runs lt tag a m m1 d)(h:¬(a<m∧m<m1))(h1:a≤m)(h2:m≤m1):SortedIn (Tl lt tag) a m1 d:=by
 by_cases e:a<m
 · have:m=m1:=(by omega);subst this;exact R.l
 · have:m=a:=(by omega);subst this;exact R.r
end
def Z8a (tag:α→Nat)(a b:Nat)(d:Array α):Prop:=∀i j,a≤i→i<j→j<b→tag d[i]! <tag d[j]!
structure Ahead (tag:α→Nat)(a i b:Nat)(d:Array α):Prop where
 x:∀x y,a≤x→x<i→i≤y→y<b→tag d[x]! <tag d[y]!
 u:∀x y,i≤x→x<y→y<b→tag d[x]! <tag d[y]!
section
variable {lt:α→α→Bool}{tag:α→Nat}{a b:Nat}
theorem Z5y:∀(j:Nat) (d:Array α),j<d.size→(∀x,a≤x→x<j→tag d[x]! <tag d[j]!)→insInner lt a j d=insInner (Tl lt tag) a j d
 |0,d,_,_=>rfl
 |j+1,d,hj,h=>by
  rw[insInner,insInner];by_cases hja:j+1>a
  ·
   have hT:Tl lt tag d[j+1]! d[j]! =lt d[j+1]! d[j]! :=Z2n (h j (by omega) (by omega));rw[hT]
   split
   · refine Z5y j _ (by rw[size_swp];omega) (fun x hx hxj=> ?_);rw[swp_other _ _ _ _ (by omega) (by omega),swp_right _ _ _ (by omega)];exact h x hx (by omega)
   · rfl
  · have:decide (j+1>a)=false:=(by simpa using hja);rw[this];rfl
theorem Z4e (r:α→α→Bool):∀(j i:Nat) (d:Array α),a≤i→j≤i→i<d.size→PermIn a (i+1) d (insInner r a j d)
 |0,i,d,_,_,_=>permIn_refl d a (i+1)
 |j+1,i,d,hai,hji,hi=>by
  rw[insInner]
  split
  ·
   rename_i h
   simp only[Bool.and_eq_true,decide_eq_true_eq]at h;exact permIn_trans _ _ _ _ _ (swp_permIn _ _ _ _ _ (by omega) (by omega) (by omega) (by omega) (by omega)) (Z4e r j i _ hai (by omega) (by rw[size_swp];exact hi))
  · exact permIn_refl d a (i+1)
theorem Z5z (hb0:0<b):∀(n i:Nat) (d:Array α),b - i=n→a<i→i≤b→b≤d.size→Ahead tag a i b d→insOuter lt a b i d=insOuter (Tl lt tag) a b i d
 |0,i,d,hn,_,hib,_,_=>by rw[insOuter.eq_1 lt,insOuter.eq_1 (Tl lt tag),if_neg (by omega),if_neg (by omega)]
 |n+1,i,d,hn,hai,hib,hb,A=>by
  rw[insOuter.eq_1 lt,insOuter.eq_1 (Tl lt tag),if_pos (by omega),if_pos (by omega),←Z5y i d (by omega) (fun x hx hxi=>A.x x i hx hxi (Nat.le_refl _) (by omega))];have p:=Z4e (a:=a) lt i i d (by omega) (Nat.le_refl _) (by omega);refine Z5z hb0 n (i+1) _ (by omega) (by omega) (by omega) (by rw[p.1];exact hb) ⟨fun x y hx hxi hy hyb=> ?_,fun x y hx hxy hyb=> ?_⟩
  ·
   rw[p.2.1 y (.inr hy)];refine permIn_all _ _ _ _ (fun v=>tag v<tag d[y]!) (by omega) p (fun z hz hzi=> ?_) x hx hxi;by_cases e:z=i
   · subst e;exact A.u _ _ (Nat.le_refl _) (by omega) hyb
   · exact A.x _ _ hz (by omega) (by omega) hyb
  · rw[p.2.1 x (.inr (by omega)),p.2.1 y (.inr (by omega))];exact A.u _ _ (by omega) hxy hyb
theorem Zbv (hO:SWO lt){d:Array α}(hab:a≤b)(hb:b≤d.size)(hT:Z8a tag a b d):PermIn a b d (insertionSort lt d a b)∧SortedIn (Tl lt tag) a b (insertionSort lt d a b):=by
 have e:insertionSort lt d a b=insertionSort (Tl lt tag) d a b:=by
  unfold insertionSort;by_cases h1:a+1≤b
  · exact Z5z (by omega) _ (a+1) d rfl (by omega) h1 hb ⟨fun x y hx hx1 hy hyb=>hT x y hx (by omega) hyb,fun x y hx hxy hyb=>hT x y (by omega) hxy hyb⟩
  · rw[insOuter.eq_1 lt,insOuter.eq_1 (Tl lt tag),if_neg (by omega),if_neg (by omega)]
 rw[e];exact insertionSort_holds (Zaj hO) d a b hab hb
end
end Go.Stb
namespace Go.Dw
open Go.RowKit Go.Sort Go.Stb
structure Ord3 {α:Type}(c:α→α→Int):Prop where
 neg:∀x y,c y x= -c x y
 le:∀x y z,c x y≤0→c y z≤0→c x z≤0
 lt:∀x y z,c x y≤0→c y z≤0→c x z=0→c x y=0∧c y z=0
theorem Z8b:Ord3 Z1x where
 neg:=Z3j
 le x y z h1 h2:=by
  rw[Z12]at*
  split at h1
  ·
   split at h2
   · rw[if_pos (by omega)];omega
   ·
    split at h2
    · rw[if_pos (by omega)];omega
    · omega
  ·
   split at h1
   ·
    split at h2
    · rw[if_pos (by omega)];omega
    ·
     split at h2
     · rw[if_neg (by omega),if_pos (by omega)];omega
     · omega
   · omega
 lt x y z h1 h2 h3:=by
  rw[Z12]at*
  split at h1
  ·
   split at h2
   · rw[if_pos (by omega)]at h3;omega
   ·
    split at h2
    · rw[if_pos (by omega)]at h3;omega
    · omega
  ·
   split at h1
   ·
    split at h2
    · rw[if_pos (by omega)]at h3;omega
    ·
     split at h2
     · rw[Z12,if_neg (by omega),if_pos (by omega)];omega
     · omega
   · omega
theorem Zdz {x y:ByteArray}:Z71 x y≤0↔¬sLt y x:=by
 rw[Z2c];rcases Z70 x y with h|h|h
 · rw[if_pos h];exact⟨fun _=>Z3z h,fun _=>by omega⟩
 · subst h;rw[if_neg (Z2f x),if_pos rfl];exact⟨fun _=>Z2f x,fun _=>by omega⟩
 · rw[if_neg (Z3z h),if_neg (fun e=>by rw[e]at h;exact Z2f y h)];exact⟨fun k=>by omega,fun k=>absurd h k⟩
theorem Z60 {x y:ByteArray}:Z71 x y=0↔x=y:=by
 rw[Z2c];by_cases h1:sLt x y
 · rw[if_pos h1];exact⟨fun k=>by omega,fun e=>by rw[e]at h1;exact absurd h1 (Z2f y)⟩
 ·
  rw[if_neg h1];by_cases h2:x=y
  · rw[if_pos h2];exact⟨fun _=>h2,fun _=>rfl⟩
  · rw[if_neg h2];exact⟨fun k=>by omega,fun e=>absurd e h2⟩
theorem ord3_S:Ord3 Z71 where
 neg:=Za2
 le x y z h1 h2:=by
  rw[Zdz]at*;intro h3;rcases Z70 x y with h|h|h
  · exact h2 (Z7t h3 h)
  · rw[h]at h3;exact h2 h3
  · exact h1 h
 lt x y z h1 h2 h3:=by
  rw[Zdz]at h1 h2;rw[Z60]at h3;subst h3
  have:x=y:=by
   rcases Z70 x y with h|h|h
   · exact absurd h h2
   · exact h
   · exact absurd h h1
  subst this;exact⟨Z60.2 rfl,Z60.2 rfl⟩
theorem Ord3.on {α β:Type}{c:α→α→Int}(h:Ord3 c)(f:β→α):Ord3 (fun x y=>c (f x) (f y)):=
 ⟨fun _ _=>h.neg _ _,fun _ _ _=>h.le _ _ _,fun _ _ _=>h.lt _ _ _⟩
theorem Ord3.or {α:Type}{c d:α→α→Int}(hc:Ord3 c)(hd:Ord3 d):Ord3 (fun x y=>if c x y=0 then d x y else c x y) where
 neg x y:=by
  show(if c y x=0 then d y x else c y x)= -(if c x y=0 then d x y else c x y);rw[hc.neg x y];by_cases h:c x y=0
  · rw[if_pos h,if_pos (by omega)];exact hd.neg x y
  · rw[if_neg h,if_neg (by omega)]
 le x y z h1 h2:=by
  show(if c x z=0 then d x z else c x z)≤0;replace h1:(if c x y=0 then d x y else c x y)≤0:=h1;replace h2:(if c y z=0 then d y z else c y z)≤0:=h2;have g1:c x y≤0:=by split at h1<;>omega
  have g2:c y z≤0:=by split at h2<;>omega
  have g3:=hc.le x y z g1 g2;by_cases h3:c x z=0
  · rw[if_pos h3];obtain⟨e1,e2⟩:=hc.lt x y z g1 g2 h3;rw[if_pos e1]at h1;rw[if_pos e2]at h2;exact hd.le x y z h1 h2
  · rw[if_neg h3];exact g3
 lt x y z h1 h2 h3:=by
  show(if c x y=0 then d x y else c x y)=0∧(if c y z=0 then d y z else c y z)=0;replace h1:(if c x y=0 then d x y else c x y)≤0:=h1;replace h2:(if c y z=0 then d y z else c y z)≤0:=h2;replace h3:(if c x z=0 then d x z else c x z)=0:=h3;have g1:c x y≤0:=by split at h1<;>omega
  have g2:c y z≤0:=by split at h2<;>omega
  by_cases h4:c x z=0
  · rw[if_pos h4]at h3;obtain⟨e1,e2⟩:=hc.lt x y z g1 g2 h4;rw[if_pos e1]at h1⊢;rw[if_pos e2]at h2⊢;exact hd.lt x y z h1 h2 h3
  · rw[if_neg h4]at h3;exact absurd h3 h4
theorem Ze0 {α:Type}:Ord3 (fun _ _:α=>(0:Int)):=⟨fun _ _=>rfl,fun _ _ _ _ _=>Int.le_refl _,fun _ _ _ _ _ _=>⟨rfl,rfl⟩⟩
theorem ord3_K:Ord3 Z14:=
 (Z8b.on Cli.tr).or ((Z8b.on Cli.at_).or ((ord3_S.on Cli.m).or ((Z8b.on Cli.ch).or ((Z8b.on Cli.fr).or ((Z8b.on Cli.ln).or Ze0)))))
theorem Ord3.swo {α:Type}{c:α→α→Int}(h:Ord3 c):SWO (fun x y=>decide (c x y<0)) where
 irrefl x:=by have:=h.neg x x;simp;omega
 trans x y z h1 h2:=by
  have h1:=of_decide_eq_true h1;have h2:=of_decide_eq_true h2;have h3:=h.le x y z (by omega) (by omega);refine decide_eq_true ?_;rcases Int.lt_or_eq_of_le h3 with e|e
  · exact e
  · have:=h.lt x y z (by omega) (by omega) e;omega
 ntrans x y z h1 h2:=by have h1:=of_decide_eq_false h1;have h2:=of_decide_eq_false h2;refine decide_eq_false ?_;have n1:=h.neg x y;have n2:=h.neg y z;have n3:=h.neg x z;have:=h.le z y x (by omega) (by omega);omega
section
variable {α:Type}
def Z51 (f:α→Cli)(c:Cli):List α→Nat
 | []=>0
 |a::l=>if Z51 f c l=0∧0<Z14 (f a) c then 0 else Z51 f c l+1
def plc (f:α→Cli)(l:List α)(c:α):List α:=l.take (Z51 f (f c) l)++c::l.drop (Z51 f (f c) l)
def Z1b (f:α→Cli)(l:List α):List α:=l.foldl (plc f) []
abbrev Z34 (l:List Cli):List Cli:=Z1b id l
theorem Z9e (f:α→Cli)(c:Cli):∀l:List α,Z51 f c l≤l.length
 | []=>Zh _
 |a::l=>by have:=Z9e f c l;unfold Z51;split<;>simp<;>omega
theorem Z9f (f:α→Cli)(c:Cli):∀(l:List α) (j:Nat) (hj:j<l.length),Z51 f c l≤j→0<Z14 (f l[j]) c
 |a::l,0,_,h=>by
  unfold Z51 at h
  split at h
  · rename_i h1;exact h1.2
  · omega
 |a::l,j+1,hj,h=>by
  simp only[List.length_cons]at hj;have ih:=Z9f f c l j (by omega);rw[List.getElem_cons_succ];unfold Z51 at h
  split at h
  · rename_i h1;exact ih (by omega)
  · exact ih (by omega)
theorem Z9g (f:α→Cli)(c:Cli):∀(l:List α) (j:Nat) (hj:j<l.length),Z51 f c l=j+1→¬0<Z14 (f l[j]) c
 |a::l,0,hj,h=>by
  unfold Z51 at h
  split at h
  · omega
  ·
   rename_i h1
   exact fun h2=>h1 ⟨by omega,h2⟩
 |a::l,j+1,hj,h=>by
  simp only[List.length_cons]at hj;rw[List.getElem_cons_succ];unfold Z51 at h
  split at h
  · omega
  · exact Z9g f c l j (by omega) (by omega)
theorem plcK_of {f:α→Cli}{c:Cli}{l:List α}{k:Nat}(hk:k≤l.length)(h1:∀j (hj:j<l.length),k≤j→0<Z14 (f l[j]) c)(h2:∀j (hj:j<l.length),k=j+1→¬0<Z14 (f l[j]) c):Z51 f c l=k:=by
 have hl:=Z9e f c l;rcases Nat.lt_trichotomy (Z51 f c l) k with h|h|h
 · exact absurd (Z9f f c l (k - 1) (by omega) (by omega)) (h2 (k - 1) (by omega) (by omega))
 · exact h
 · exact absurd (h1 (Z51 f c l - 1) (by omega) (by omega)) (Z9g f c l (Z51 f c l - 1) (by omega) (by omega))
theorem Zak {β:Type}(f:α→Cli)(g:β→α)(c:Cli):∀l:List β,Z51 f c (l.map g)=Z51 (fun x=>f (g x)) c l
 | []=>rfl
 |a::l=>by rw[List.map_cons,Z51,Z51,Zak f g c l]
theorem plc_map {β:Type}(f:α→Cli)(g:β→α)(l:List β)(c:β):(plc (fun x=>f (g x)) l c).map g=plc f (l.map g) (g c):=by
 unfold plc;rw[Zak,List.map_append,List.map_cons,List.map_take,List.map_drop]
theorem Z4f {β:Type}(f:α→Cli)(g:β→α):∀(l m:List β),(l.foldl (plc fun x=>f (g x)) m).map g=(l.map g).foldl (plc f) (m.map g)
 | [],_=>rfl
 |c::l,m=>by rw[List.foldl_cons,Z4f f g l,plc_map];rfl
theorem Z3c {β:Type}(f:α→Cli)(g:β→α)(l:List β):(Z1b (fun x=>f (g x)) l).map g=Z1b f (l.map g):=Z4f f g l []
theorem Zal (f:α→Cli)(l:List α)(c:α):(plc f l c).Perm (l++ [c]):=by
 unfold plc;refine(List.perm_middle.trans ?_);rw[List.take_append_drop];exact(List.perm_append_singleton c l).symm
theorem Z4g (f:α→Cli):∀(l m:List α),(l.foldl (plc f) m).Perm (m++l)
 | [],m=>by simp
 |c::l,m=>by refine(Z4g f l (plc f m c)).trans ?_;rw[show m++c::l=m++ [c]++l by simp];exact(Zal f m c).append_right l
theorem Z2e (f:α→Cli)(l:List α):(Z1b f l).Perm l:=by
 have:=Z4g f l [];simpa [Z1b]using this
theorem srt_snoc (f:α→Cli)(l:List α)(c:α):Z1b f (l++ [c])=plc f (Z1b f l) c:=by
 unfold Z1b;rw[List.foldl_append];rfl
def tgl (f:α→Cli):α×Nat→α×Nat→Bool:=Tl (fun x y=>decide (Z14 (f x.1) (f y.1)<0)) (fun x=>x.2)
theorem tgl_swo (f:α→Cli):SWO (tgl f):=Zaj (ord3_K.on (fun x:α×Nat=>f x.1)).swo
theorem plc_pw (f:α→Cli){l:List (α×Nat)}{c:α×Nat}(h:l.Pairwise fun x y=>tgl f y x=false)(ht:∀x∈l,x.2<c.2):(plc (fun x:α×Nat=>f x.1) l c).Pairwise fun x y=>tgl f y x=false:=by
 have hS:=tgl_swo f;obtain⟨k,hk⟩:∃k,Z51 (fun x:α×Nat=>f x.1) (f c.1) l=k:=⟨_,rfl⟩;have hkl:=Z9e (fun x:α×Nat=>f x.1) (f c.1) l;unfold plc;rw[hk]at hkl⊢;have hp:=List.pairwise_iff_getElem.1 h;have hdr:∀x∈l.drop k,tgl f x c=false:=fun x hx=>by obtain⟨j,hj,e⟩:=List.mem_iff_getElem.1 hx;rw[List.getElem_drop]at e;rw[List.length_drop]at hj;have h1:=Z9f (fun x:α×Nat=>f x.1) (f c.1) l (k+j) (by omega) (by omega);rw[e]at h1;refine Z89 hS ?_;unfold tgl Tl;have:decide (Z14 (f c.1) (f x.1)<0)=true:=decide_eq_true (by have:=Z57 (f x.1) (f c.1);omega);show(decide (Z14 (f c.1) (f x.1)<0)||_)=true;rw[this];rfl
 have htk:∀x∈l.take k,tgl f c x=false:=fun x hx=>by
  obtain⟨j,hj,e⟩:=List.mem_iff_getElem.1 hx;rw[List.length_take]at hj;rw[List.getElem_take]at e;have h1:=Z9g (fun x:α×Nat=>f x.1) (f c.1) l (k - 1) (by omega) (by omega);have h2:tgl f c l[k - 1]=false:=by unfold tgl;rw[Z2n (tag:=fun x:α×Nat=>x.2) (ht _ (Zn _))];refine decide_eq_false ?_;have:=Z57 (f c.1) (f l[k - 1].1);omega
  by_cases hjk:j=k - 1
  · subst hjk;rw[←e];exact h2
  · have h3:=hp j (k - 1) (by omega) (by omega) (by omega);rw[e]at h3;exact hS.ntrans _ _ _ h2 h3
 refine List.pairwise_append.2 ⟨h.sublist (List.take_sublist _ _),List.pairwise_cons.2 ⟨hdr,h.sublist (List.drop_sublist _ _)⟩, ?_⟩;intro x hx y hy;rcases List.mem_cons.1 hy with e|e
 · rw[e];exact htk x hx
 · have h1:=htk x hx;have h2:=hdr y e;exact hS.ntrans _ _ _ h2 h1
theorem Ze1 (f:α→Cli):∀(l m:List (α×Nat)),m.Pairwise (fun x y=>tgl f y x=false)→l.Pairwise (fun x y=>x.2<y.2)→(∀x∈m,∀y∈l,x.2<y.2)→(l.foldl (plc fun x:α×Nat=>f x.1) m).Pairwise fun x y=>tgl f y x=false
 | [],_,h,_,_=>h
 |c::l,m,h,hl,hm=>by
  obtain⟨h1,h2⟩:=List.pairwise_cons.1 hl;refine Ze1 f l _ (plc_pw f h fun x hx=>hm x hx c (by simp)) h2 fun x hx y hy=> ?_;rcases List.mem_append.1 ((Zal _ m c).mem_iff.1 hx)with e|e
  · exact hm x e y (List.mem_cons_of_mem _ hy)
  · rw[List.mem_singleton.1 e];exact h1 y hy
theorem Z8c (l:List α):(l.zipIdx).Pairwise (fun x y=>x.2<y.2):=by
 refine List.pairwise_iff_getElem.2 fun i j hi hj hij=> ?_;simp only[List.getElem_zipIdx];omega
theorem srt_tag (f:α→Cli){l:List α}{d:List (α×Nat)}(hp:d.Perm l.zipIdx)(hs:d.Pairwise fun x y=>tgl f y x=false):d.map (fun x=>x.1)=Z1b f l:=by
 have e1:=Ze1 f l.zipIdx [] List.Pairwise.nil (Z8c l) (fun x hx=>by simp at hx);have e2:(Z1b (fun x:α×Nat=>f x.1) l.zipIdx).Perm l.zipIdx:=Z2e _ _
 have e3:d=Z1b (fun x:α×Nat=>f x.1) l.zipIdx:=by
  refine List.Perm.eq_of_pairwise (le:=fun x y=>tgl f y x=false) (fun x y hx hy h1 h2=> ?_) hs e1 (hp.trans e2.symm);obtain⟨i,hi,hx⟩:=List.mem_iff_getElem.1 (hp.mem_iff.1 hx);obtain⟨j,hj,hy⟩:=List.mem_iff_getElem.1 (e2.mem_iff.1 hy);simp only[List.getElem_zipIdx]at hx hy
  have hij:i=j:=by
   have key:∀u v:α×Nat,tgl f u v=false→tgl f v u=false→¬u.2<v.2:=fun u v g1 g2 h3=>by
    unfold tgl Tl at g1 g2;simp only[Bool.or_eq_false_iff,Bool.and_eq_false_iff,Bool.not_eq_false',decide_eq_false_iff_not,decide_eq_true_eq]at g1 g2;rcases g1.2 with g|g
    · exact g2.1 g
    · exact g h3
   have h3:=key _ _ h1 h2;have h4:=key _ _ h2 h1;rw[←hx,←hy]at h3 h4;simp only at h3 h4;omega
  subst hij;rw[←hx,←hy]
 rw[e3,Z3c f (fun x:α×Nat=>x.1),List.zipIdx_map_fst]
end
theorem srtC_srt (l:List Cli):Srt (Z34 l):=by
 have e1:=Ze1 id l.zipIdx [] List.Pairwise.nil (Z8c l) (fun x hx=>by simp at hx);have e2:(Z1b (fun x:Cli×Nat=>id x.1) l.zipIdx).map (fun x=>x.1)=Z34 l:=by rw[Z3c id (fun x:Cli×Nat=>x.1),List.zipIdx_map_fst]
 intro i h0 hi hc;have hlen:(Z34 l).length=(Z1b (fun x:Cli×Nat=>id x.1) l.zipIdx).length:=by rw[←e2,List.length_map]
 have h1:=List.pairwise_iff_getElem.1 e1 (i - 1) i (by show i - 1<(Z1b (fun x:Cli×Nat=>id x.1) l.zipIdx).length;omega) (by show i<(Z1b (fun x:Cli×Nat=>id x.1) l.zipIdx).length;omega) (by omega);have g:∀j (hj:j<(Z1b (fun x:Cli×Nat=>id x.1) l.zipIdx).length),(Z34 l).getD j Z1g=((Z1b (fun x:Cli×Nat=>id x.1) l.zipIdx)[j]'hj).1:=fun j hj=>by rw[Zg,←e2,List.getElem?_map,Zi hj];rfl
 rw[g i (by omega),g (i - 1) (by omega)]at hc;unfold tgl Tl at h1;simp only[Bool.or_eq_false_iff,decide_eq_false_iff_not]at h1;exact h1.1 hc
end Go.Dw
