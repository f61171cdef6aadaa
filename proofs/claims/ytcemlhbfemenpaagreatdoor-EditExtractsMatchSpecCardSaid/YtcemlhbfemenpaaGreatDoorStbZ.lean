/- Several texts laid into one: Plain: merging by rotations: what the searches find is a cut; both parts in order, and then the whole; Generated (gen/stb.py): slices.SortStableFunc at deadwax/api.Clip: swapRange, rotate; Generated (gen/stb.py): slices.SortStableFunc at deadwax/api.Clip: merging one element; Generated (gen/stb.py): slices.SortStableFunc at deadwax/api.Clip: the merge; Generated (gen/stb.py): slices.SortStableFunc at deadwax/api.Clip: blocks put in order and merged; A row of the call's own behind a sort in place: it is still the call's own; blocks of other types stay; -/
import Derived.Test.YtcemlhbfemenpaaGreatDoorSrtY
import Derived.Test.YtcemlhbfemenpaaGreatDoorMisZ
import Derived.Test.YtcemlhbfemenpaaGreatDoorFacZ
set_option maxHeartbeats 16000000
set_option maxRecDepth 1000000
namespace Go.Stb
open Go.Sort
variable {α:Type}[Inhabited α] {lt:α→α→Bool}{tag:α→Nat}
theorem Ze3 (hO:SWO lt){a b:Nat}{d d1:Array α}{i:Nat}(R:Runs lt tag a (a+1) b d)(h1:a+1≤i)(h2:i≤b)(hb:b≤d.size)
  (f1:i=a+1∨lt d[i - 1]! d[a]! =true) (f2:i=b∨lt d[i]! d[a]! =false) (hd:∀x,d1[x]! =blk (a+1) 1 (i - (a+1)) d x) (hs:d1.size=d.size):SortedIn (Tl lt tag) a b d1:=by
 have C:Cut lt tag a (a+1) b d a i:=⟨Nat.le_refl _,by omega,h1,h2,fun h=>by omega,fun _ h=>by
  rcases f1 with f|f
  · omega
  · exact f⟩
 have hd':∀x,d1[x]! =blk (a+1) (a+1 - a) (i - (a+1)) d x:=fun x=>by rw[show a+1 - a=1 by omega];exact hd x
 obtain⟨r1,r2,hx⟩:=Z7e hO R C hd';have e1:a+(i - (a+1))=i - 1:=by omega
 rw[e1]at r1 r2 hx;have s1:SortedIn (Tl lt tag) a (i - 1) d1:=Z4d r1 (fun h=>by omega) (Nat.le_refl _) (by omega)
 have g1:d1[i - 1]! =d[a]! :=by
  rw[hd];unfold blk;by_cases c:i=a+1
  · subst c;rw[if_neg (by omega),if_pos (by omega)];congr 1;omega
  · rw[if_neg (by omega),if_pos (by omega)];congr 1;omega
 have s2:SortedIn (Tl lt tag) (i - 1) b d1:=Z5x hO r2 fun _ hib=>by
  have g2:d1[i]! =d[i]! :=by rw[hd];unfold blk;rw[if_neg (by omega),if_neg (by omega)]
  rw[g1,g2,Z2n (R.t a i (Nat.le_refl _) (by omega) h1 hib)];rcases f2 with f|f
  · omega
  · exact f
 exact(Z7f (by omega) (by omega) (by omega) hx (permIn_refl d1 a (i - 1)) s1 (permIn_refl d1 (i - 1) b) s2).2
theorem Ze4 (hO:SWO lt){a m:Nat}{d d1:Array α}{i:Nat}(R:Runs lt tag a m (m+1) d)(h1:a≤i)(h2:i≤m)(hb:m+1≤d.size)
  (f1:i=a∨lt d[m]! d[i - 1]! =false) (f2:i=m∨lt d[m]! d[i]! =true) (hd:∀x,d1[x]! =blk m (m - i) 1 d x) (hs:d1.size=d.size):SortedIn (Tl lt tag) a (m+1) d1:=by
 have C:Cut lt tag a m (m+1) d i (m+1):=⟨h1,h2,by omega,Nat.le_refl _,fun _ h=>by omega,fun h _=>by
  rcases f2 with f|f
  · omega
  · rw[Nat.add_sub_cancel];exact f⟩
 have hd':∀x,d1[x]! =blk m (m - i) (m+1 - m) d x:=fun x=>by rw[show m+1 - m=1 by omega];exact hd x
 obtain⟨r1,r2,hx⟩:=Z7e hO R C hd';have e1:i+(m+1 - m)=i+1:=by omega
 rw[e1]at r1 r2 hx
 have s1:SortedIn (Tl lt tag) a (i+1) d1:=Z5x hO r1 fun hai _=>by
  have g1:d1[i]! =d[m]! :=by rw[hd];unfold blk;rw[if_pos (by omega)];congr 1;omega
  have g2:d1[i - 1]! =d[i - 1]! :=by rw[hd];unfold blk;rw[if_neg (by omega),if_neg (by omega)]
  rw[g1,g2,Z2n (R.t (i - 1) m (by omega) (by omega) (Nat.le_refl _) (by omega))];rcases f1 with f|f
  · omega
  · exact f
 have s2:SortedIn (Tl lt tag) (i+1) (m+1) d1:=Z4d r2 (fun h=>by omega) (by omega) (Nat.le_refl _);exact(Z7f (by omega) (by omega) (by omega) hx (permIn_refl d1 a (i+1)) s1 (permIn_refl d1 (i+1) (m+1)) s2).2
def lo0 (a m b mid:Nat):Nat:=if mid<m then mid+m - b else a
def hi0 (m mid:Nat):Nat:=if mid<m then mid else m
theorem bnds {a m b mid:Nat}(h1:a<m)(h2:m<b)(hm:mid=(a+b) / 2):a≤lo0 a m b mid∧lo0 a m b mid≤hi0 m mid∧hi0 m mid≤m∧hi0 m mid≤mid∧mid+m≤b+lo0 a m b mid:=by
 unfold lo0 hi0;by_cases c:mid<m
 · rw[if_pos c,if_pos c];omega
 · rw[if_neg c,if_neg c];omega
theorem Zby {a m b mid s:Nat}{d:Array α}(R:Runs lt tag a m b d)(h1:a<m)(h2:m<b)(hm:mid=(a+b) / 2)(hl:lo0 a m b mid≤s)(hh:s≤hi0 m mid)
  (f1:s=lo0 a m b mid∨lt d[mid+m - s]! d[s - 1]! =false) (f2:s=hi0 m mid∨lt d[mid+m - s - 1]! d[s]! =true):Cut lt tag a m b d s (mid+m - s):=by
 obtain⟨b1,b2,b3,b4,b5⟩:=bnds h1 h2 hm;refine⟨by omega,by omega,by omega,by omega,fun q1 q2=> ?_,fun q1 q2=> ?_⟩
 ·
  rcases f1 with f|f
  ·
   exfalso;unfold lo0 at f
   split at f
   · omega
   · omega
  · rw[Z2n (R.t (s - 1) (mid+m - s) (by omega) (by omega) (by omega) q2)];exact f
 ·
  rcases f2 with f|f
  ·
   exfalso;unfold hi0 at f
   split at f
   · omega
   · omega
  · exact f
structure Blks (lt:α→α→Bool)(tag:α→Nat)(n bs:Nat)(d:Array α):Prop where
 s:∀k,k*bs<n→SortedIn (Tl lt tag) (k*bs) (min (k*bs+bs) n) d
 t:∀x y,x / bs<y / bs→y<n→tag d[x]! <tag d[y]!
theorem Blks.all {n bs:Nat}{d:Array α}(h:Blks lt tag n bs d)(hn:n≤bs):SortedIn (Tl lt tag) 0 n d:=by
 by_cases h0:n=0
 · intro i j _ _ hj;omega
 · have:=h.s 0 (by omega);rw[Nat.zero_mul,Nat.zero_add,Nat.min_eq_right hn]at this;exact this
structure Half (lt:α→α→Bool)(tag:α→Nat)(n bs a:Nat)(d:Array α):Prop where
 k:∃k,a=k*(2*bs)
 s:∀k,k*(2*bs)<a→SortedIn (Tl lt tag) (k*(2*bs)) (min (k*(2*bs)+2*bs) n) d
 r:∀k,a≤k*bs→k*bs<n→SortedIn (Tl lt tag) (k*bs) (min (k*bs+bs) n) d
 t:∀x y,x / (2*bs)<y / (2*bs)→y<n→tag d[x]! <tag d[y]!
 u:∀x y,a≤x→x / bs<y / bs→y<n→tag d[x]! <tag d[y]!
theorem Half.start {n bs:Nat}{d:Array α}(_:0<bs)(h:Blks lt tag n bs d):Half lt tag n bs 0 d:=
 ⟨⟨0,by omega⟩,fun k hk=>by omega,fun k _ hk=>h.s k hk,fun x y hxy hy=>h.t x y (by
  rw[Nat.mul_comm,←Nat.div_div_eq_div_mul,←Nat.div_div_eq_div_mul]at hxy
  exact Nat.lt_of_not_le fun q=>by have:=Nat.div_le_div_right (c:=2) q;omega) hy,fun x y _ hxy hy=>h.t x y hxy hy⟩
theorem Z8e {k bs x:Nat}(hb:0<bs)(h1:k*bs≤x)(h2:x<k*bs+bs):x / bs=k:=by
 rw[Nat.div_eq_iff hb];omega
theorem Half.runs {n bs a b:Nat}{d:Array α}(hb:0<bs)(h:Half lt tag n bs a d)(hm:a+bs≤b)(hbn:b≤n)(hb2:b≤a+2*bs)(hb3:b=n∨b=a+2*bs):Runs lt tag a (a+bs) b d:=by
 obtain⟨k,hk⟩:=h.k;have e1:a=(2*k)*bs:=by rw[hk,Nat.mul_left_comm,Nat.mul_assoc]
 have e2:a+bs=(2*k+1)*bs:=by rw[e1,Nat.add_mul,Nat.one_mul]
 refine⟨?_, ?_,fun x y h1 h2 h3 h4=> ?_⟩
 · have:=h.r (2*k) (by omega) (by omega);rw[←e1,Nat.min_eq_left (by omega)]at this;exact this
 ·
  by_cases hlt:a+bs<n
  · have:=h.r (2*k+1) (by omega) (by omega);rw[←e2]at this;have e3:min (a+bs+bs) n=b:=(by omega);rw[e3]at this;exact this
  · intro i j _ _ hj;omega
 · refine h.u x y h1 ?_ (by omega);rw[Z8e hb (k:=2*k) (by omega) (by omega),Z8e hb (k:=2*k+1) (x:=y) (by omega) (by omega)];omega
theorem Half.step {n bs a b:Nat}{d d':Array α}(hb:0<bs)(h:Half lt tag n bs a d)(hab:a≤b)(hbn:b≤n)(hn:n≤d.size)(hb2:b≤a+2*bs)(hb3:b=n∨b=a+2*bs)(p:PermIn a b d d')(s:SortedIn (Tl lt tag) a b d'):
  ∀a',(a'=a+2*bs∨(b=n∧a≤a'))→(∃k,a'=k*(2*bs))→a'≤a+2*bs→b≤a'→(a=a'→a=b)→Half lt tag n bs a' d':=by
 intro a' ha' hk' hle hba hz;obtain⟨k,hk⟩:=h.k;obtain⟨k',hk'⟩:=hk'
 have hkk:a'=a∨a'=a+2*bs:=by
  rcases ha' with e|⟨_,e⟩
  · exact .inr e
  ·
   rw[hk]at hle e;rw[hk']at hle e;have h1:k≤k':=Nat.le_of_mul_le_mul_right e (by omega);have h2:k'≤k+1:=(by refine Nat.le_of_mul_le_mul_right (c:=2*bs) ?_ (by omega);rw[Nat.add_mul,Nat.one_mul];omega);rcases Nat.lt_or_ge k k' with q|q
   · have:k'=k+1:=(by omega);subst this;right;rw[hk',hk,Nat.add_mul,Nat.one_mul]
   · have:k'=k:=(by omega);subst this;left;rw[hk',hk]
 have out:∀x,x<a∨b≤x→d'[x]! =d[x]! :=fun x hx=>p.2.1 x hx
 have tg:∀(q:Nat→Prop),(∀z,a≤z→z<b→q (tag d[z]!))→∀z,a≤z→z<b→q (tag d'[z]!):=fun q hq z h1 h2=>
  permIn_all _ _ _ _ (fun v=>q (tag v)) (by omega) p hq z h1 h2
 have div2:∀z,a≤z→z<b→z / (2*bs)=k:=fun z h1 h2=>Z8e (by omega) (by omega) (by omega);refine⟨⟨k',hk'⟩, ?_, ?_, ?_, ?_⟩
 ·
  intro j hj i1 i2 q1 q2 q3;by_cases c:j*(2*bs)<a
  · have hjk:j*(2*bs)+2*bs≤a:=(by rw[hk]at c⊢;have:j<k:=Nat.lt_of_mul_lt_mul_right c;have h3:(j+1)*(2*bs)≤k*(2*bs):=Nat.mul_le_mul_right _ this;rw[Nat.add_mul,Nat.one_mul]at h3;exact h3);rw[out i1 (by omega),out i2 (by omega)];exact h.s j c i1 i2 q1 q2 q3
  · have hja:j*(2*bs)=a:=(by rw[hk]at c hkk⊢;have h1:k≤j:=Nat.le_of_mul_le_mul_right (by omega) (show 0<2*bs by omega);have h2:j<k+1:=(by refine Nat.lt_of_mul_lt_mul_right (a:=2*bs) ?_;rw[Nat.add_mul,Nat.one_mul];omega);have:j=k:=(by omega);rw[this]);rw[hja]at q1 q3;exact s i1 i2 q1 q2 (by omega)
 · intro j hj hjn i1 i2 q1 q2 q3;rw[out i1 (by omega),out i2 (by omega)];exact h.r j (by omega) hjn i1 i2 q1 q2 q3
 ·
  intro x y hxy hy;by_cases cx:a≤x∧x<b
  ·
   have hxk:=div2 x cx.1 cx.2;by_cases cy:a≤y∧y<b
   · have:=div2 y cy.1 cy.2;omega
   · rw[out y (by omega)];exact tg (fun t=>t<tag d[y]!) (fun z z1 z2=>h.t z y (by rw[div2 z z1 z2];omega) hy) x cx.1 cx.2
  ·
   rw[out x (by omega)];by_cases cy:a≤y∧y<b
   · have hyk:=div2 y cy.1 cy.2;exact tg (fun t=>tag d[x]! <t) (fun z z1 z2=>h.t x z (by rw[div2 z z1 z2];omega) (by omega)) y cy.1 cy.2
   · rw[out y (by omega)];exact h.t x y hxy hy
 · intro x y hx hxy hy;have hya:x≤y:=Nat.le_of_lt (Nat.lt_of_not_le fun q=>by have:=Nat.div_le_div_right (c:=bs) q;omega);rw[out x (by omega),out y (by omega)];exact h.u x y (by omega) hxy hy
theorem Half.done {n bs a:Nat}{d:Array α}(h:Half lt tag n bs a d)(hn:n≤a):Blks lt tag n (2*bs) d:=⟨fun k hk=>h.s k (by omega),h.t⟩
theorem Half.last {n bs a:Nat}{d:Array α}(hb:0<bs)(h:Half lt tag n bs a d)(hn:n≤a+bs):Blks lt tag n (2*bs) d:=by
 refine⟨fun k hk=> ?_,h.t⟩;by_cases c:k*(2*bs)<a
 · exact h.s k c
 · obtain⟨k0,hk0⟩:=h.k;have hka:k*(2*bs)=a:=(by rw[hk0]at c hn⊢;have h1:k0≤k:=Nat.le_of_mul_le_mul_right (by omega) (show 0<2*bs by omega);have h2:k<k0+1:=(by refine Nat.lt_of_mul_lt_mul_right (a:=2*bs) ?_;rw[Nat.add_mul,Nat.one_mul];omega);have:k=k0:=(by omega);rw[this]);have e1:a=(2*k0)*bs:=(by rw[hk0,Nat.mul_left_comm,Nat.mul_assoc]);have:=h.r (2*k0) (by omega) (by omega);rw[←e1]at this;rw[hka,Nat.min_eq_right (by omega)];rw[Nat.min_eq_right (by omega)]at this;exact this
structure Ins (lt:α→α→Bool)(tag:α→Nat)(n bs a:Nat)(d:Array α):Prop where
 k:∃k,a=k*bs
 s:∀k,k*bs<a→SortedIn (Tl lt tag) (k*bs) (k*bs+bs) d
 u:∀x y,a≤x→x<y→y<n→tag d[x]! <tag d[y]!
 t:∀x y,x / bs<y / bs→y<n→tag d[x]! <tag d[y]!
theorem Ins.start {n bs:Nat}{d:Array α}(h:Z8a tag 0 n d):Ins lt tag n bs 0 d:=
 ⟨⟨0,by omega⟩,fun k hk=>by omega,fun x y _ hxy hy=>h x y (by omega) hxy hy,fun x y hxy hy=>h x y (by omega) (Nat.lt_of_not_le fun q=>by have:=Nat.div_le_div_right (c:=bs) q;omega) hy⟩
theorem Ins.tagUp {n bs a b:Nat}{d:Array α}(h:Ins lt tag n bs a d)(hb:b≤n):Z8a tag a b d:=fun i j hi hij hj=>h.u i j hi hij (by omega)
theorem Ins.step {n bs a b:Nat}{d d':Array α}(hb:0<bs)(h:Ins lt tag n bs a d)(hn:n≤d.size)(hbn:b≤n)(hbe:b=a+bs)(p:PermIn a b d d')(s:SortedIn (Tl lt tag) a b d'):Ins lt tag n bs b d':=by
 obtain⟨k,hk⟩:=h.k;have out:∀x,x<a∨b≤x→d'[x]! =d[x]! :=fun x hx=>p.2.1 x hx
 have tg:∀(q:Nat→Prop),(∀z,a≤z→z<b→q (tag d[z]!))→∀z,a≤z→z<b→q (tag d'[z]!):=fun q hq z h1 h2=>
  permIn_all _ _ _ _ (fun v=>q (tag v)) (by omega) p hq z h1 h2
 have dv:∀z,a≤z→z<b→z / bs=k:=fun z h1 h2=>Z8e hb (by omega) (by omega);refine⟨⟨k+1,by rw[Nat.add_mul,Nat.one_mul,←hk];exact hbe⟩, ?_, ?_, ?_⟩
 ·
  intro j hj i1 i2 q1 q2 q3;by_cases c:j*bs<a
  · have hjk:j*bs+bs≤a:=(by rw[hk]at c⊢;have:j<k:=Nat.lt_of_mul_lt_mul_right c;have h3:(j+1)*bs≤k*bs:=Nat.mul_le_mul_right _ this;rw[Nat.add_mul,Nat.one_mul]at h3;exact h3);rw[out i1 (by omega),out i2 (by omega)];exact h.s j c i1 i2 q1 q2 q3
  · have hja:j*bs=a:=(by rw[hbe,hk]at hj;rw[hk]at c⊢;have h1:k≤j:=Nat.le_of_mul_le_mul_right (by omega) hb;have h2:j<k+1:=(by refine Nat.lt_of_mul_lt_mul_right (a:=bs) ?_;rw[Nat.add_mul,Nat.one_mul];omega);have:j=k:=(by omega);rw[this]);rw[hja]at q1 q3;exact s i1 i2 q1 q2 (by omega)
 · intro x y hx hxy hy;rw[out x (by omega),out y (by omega)];exact h.u x y (by omega) hxy hy
 ·
  intro x y hxy hy;by_cases cx:a≤x∧x<b
  ·
   have hxk:=dv x cx.1 cx.2;by_cases cy:a≤y∧y<b
   · have:=dv y cy.1 cy.2;omega
   · rw[out y (by omega)];exact tg (fun t=>t<tag d[y]!) (fun z z1 z2=>h.t z y (by rw[dv z z1 z2];omega) hy) x cx.1 cx.2
  ·
   rw[out x (by omega)];by_cases cy:a≤y∧y<b
   · have hyk:=dv y cy.1 cy.2;exact tg (fun t=>tag d[x]! <t) (fun z z1 z2=>h.t x z (by rw[dv z z1 z2];omega) (by omega)) y cy.1 cy.2
   · rw[out y (by omega)];exact h.t x y hxy hy
theorem Ins.done {n bs a:Nat}{d d':Array α}(hb:0<bs)(h:Ins lt tag n bs a d)(hn:n≤d.size)(han:a≤n)(hna:n<a+bs)(p:PermIn a n d d')(s:SortedIn (Tl lt tag) a n d'):Blks lt tag n bs d':=by
 obtain⟨k,hk⟩:=h.k;have out:∀x,x<a∨n≤x→d'[x]! =d[x]! :=fun x hx=>p.2.1 x hx
 have tg:∀(q:Nat→Prop),(∀z,a≤z→z<n→q (tag d[z]!))→∀z,a≤z→z<n→q (tag d'[z]!):=fun q hq z h1 h2=>
  permIn_all _ _ _ _ (fun v=>q (tag v)) (by omega) p hq z h1 h2
 have dv:∀z,a≤z→z<n→z / bs=k:=fun z h1 h2=>Z8e hb (by omega) (by omega);refine⟨?_, ?_⟩
 ·
  intro j hj i1 i2 q1 q2 q3;by_cases c:j*bs<a
  · have hjk:j*bs+bs≤a:=(by rw[hk]at c⊢;have:j<k:=Nat.lt_of_mul_lt_mul_right c;have h3:(j+1)*bs≤k*bs:=Nat.mul_le_mul_right _ this;rw[Nat.add_mul,Nat.one_mul]at h3;exact h3);rw[out i1 (by omega),out i2 (by omega)];exact h.s j c i1 i2 q1 q2 (by omega)
  · have hja:j*bs=a:=(by rw[hk]at hna c⊢;have h1:k≤j:=Nat.le_of_mul_le_mul_right (by omega) hb;have h2:j<k+1:=(by refine Nat.lt_of_mul_lt_mul_right (a:=bs) ?_;rw[Nat.add_mul,Nat.one_mul];omega);have:j=k:=(by omega);rw[this]);rw[hja]at q1 q3;exact s i1 i2 q1 q2 (by omega)
 ·
  intro x y hxy hy;by_cases cx:a≤x∧x<n
  ·
   have hxk:=dv x cx.1 cx.2;by_cases cy:a≤y∧y<n
   · have:=dv y cy.1 cy.2;omega
   ·
    exact absurd hxy (by
     have:y<a:=(by omega);have:=Nat.div_le_div_right (c:=bs) (show y≤x by omega)
     omega)
  ·
   have hxa:x<a:=(by refine Nat.lt_of_not_le fun q=> ?_;have:=Nat.div_le_div_right (c:=bs) (show y≤x by omega);omega);rw[out x (.inl hxa)];by_cases cy:a≤y∧y<n
   · have hyk:=dv y cy.1 cy.2;exact tg (fun t=>tag d[x]! <t) (fun z z1 z2=>h.t x z (by rw[dv z z1 z2];omega) (by omega)) y cy.1 cy.2
   · rw[out y (by omega)];exact h.t x y hxy hy
end Go.Stb
namespace Go.Proofs.YtcemlhbfemenpaaGreatDoor
open Go.Shelf Go.RowKit Go.Lib Go.Sort Go.Stb Go.Proofs
variable {P:Program}{α:Type}[Inhabited α]
structure StbCl (P:Program)(k:Nat):Prop where
 mixed:P.follows .mixedOrders=true
 fs:P.funcs[(166:Nat)]? =some Tryz.f166
 fr:P.funcs[(138:Nat)]? =some Tryz.f138
 fy:P.funcs[(100:Nat)]? =some Tryz.f100
 ft:P.funcs[(60:Nat)]? =some Tryz.f60
 fo:P.funcs[(35:Nat)]? =some Tryz.f35
 es:∀args w,(callFunc 166 args).run P w= .ok (.enter 166 args) w
 er:∀args w,(callFunc 138 args).run P w= .ok (.enter 138 args) w
 ey:∀args w,(callFunc 100 args).run P w= .ok (.enter 100 args) w
 et:∀args w,(callFunc 60 args).run P w= .ok (.enter 60 args) w
 ei:∀args w,(callFunc 99 args).run P w= .ok (.enter 99 args) w
 t0:P.underlying 0=some (TypeDesc.tuple #[])
 a0:∀w,(isAgg 0).run P w= .ok false w
 z0:∀w,(Go.sizeOf 0).run P w= .ok 1 w
 v0:∀w,(zeroValue 0).run P w= .ok (Value.tuple #[]) w
 t3:P.underlying 3=some (TypeDesc.int IntKind.i64)
 a3:∀w,(isAgg 3).run P w= .ok false w
 z3:∀w,(Go.sizeOf 3).run P w= .ok 1 w
 v3:∀w,(zeroValue 3).run P w= .ok (Value.int IntKind.i64 0) w
 t4:P.underlying 4=some (TypeDesc.bool)
 a4:∀w,(isAgg 4).run P w= .ok false w
 z4:∀w,(Go.sizeOf 4).run P w= .ok 1 w
 v4:∀w,(zeroValue 4).run P w= .ok (Value.bool false) w
 t22:P.underlying 22=some (TypeDesc.slice 39)
 a22:∀w,(isAgg 22).run P w= .ok false w
 z22:∀w,(Go.sizeOf 22).run P w= .ok 1 w
 v22:∀w,(zeroValue 22).run P w= .ok (Value.slice none 0 0) w
 t25:P.underlying 64=some (TypeDesc.func #[39,39] #[3] false)
 a25:∀w,(isAgg 64).run P w= .ok false w
 z25:∀w,(Go.sizeOf 64).run P w= .ok 1 w
 v25:∀w,(zeroValue 64).run P w= .ok (Value.nilFunc) w
 t39:P.underlying 166=some (TypeDesc.int IntKind.u64)
 aE:∀w,(isAgg 39).run P w= .ok true w
 zE:∀w,(Go.sizeOf 39).run P w= .ok k w
theorem StbCl.swapRange {k:Nat}(L:StbCl P k)(enc:α→List Value)(g:Nat)(cb:Array Value)(blk off cap:Nat)(a b n:Nat)(d0 d:Array α)(w0 w:World)
  (R:RowK enc k w0 blk off d0) (hs:d0.size=d.size) (S:SWK enc k w0 blk off d w) (h1:a+n≤b) (h2:b+n≤d.size) (hsz:d.size<4611686018427387904):
  Calls P 166 #[.slice (some ⟨blk,off,none⟩) d.size cap,.int .i64 (a:Int),.int .i64 (b:Int),.int .i64 (n:Int),.func (.func g) #[] cb] w fun e w'=>e= .returned (.tuple #[])∧SWK enc k w0 blk off (Z1i a b n d) w':=by
 have mixed:=L.mixed;have t0:=L.t0;have a0:=L.a0;have z0:=L.z0;have v0:=L.v0;have t3:=L.t3;have a3:=L.a3;have z3:=L.z3;have v3:=L.v3;have t4:=L.t4;have a4:=L.a4;have z4:=L.z4;have v4:=L.v4;have t22:=L.t22;have a22:=L.a22;have z22:=L.z22;have v22:=L.v22;have t25:=L.t25;have a25:=L.a25;have z25:=L.z25;have v25:=L.v25;have t39:=L.t39;have aE:=L.aE;have zE:=L.zE;have FG:=L.fs;have S0:Aside (SWK enc k w0 blk off d w):=S;clear S;go_enter FG,Tryz.ntmps166;go_wp2_with fail
 go_loopg [10] n (fun kx s10 wr=>∃(i:Nat) (dk:Array α),s10= .int .i64 (i:Int)∧i≤n∧n - i≤kx∧dk.size=d.size∧Aside (SWK enc k w0 blk off dk wr)∧Hid (dk=Z1i a b i d))
 case atStart=>exact⟨0,d,rfl,Nat.zero_le _,by omega,rfl,S0,rfl⟩
 case round=>
  clear S0;obtain⟨i,dk,rfl,hi,hkx,hds,S1,HD⟩:=hrel;by_cases hlt:i<n
  ·
   obtain⟨x,hx⟩:∃x,x=a+i:=⟨_,rfl⟩;obtain⟨y,hy⟩:∃y,y=b+i:=⟨_,rfl⟩;have rx:IntKind.i64.wrap ((a:Int)+(i:Int))=(x:Int):=(by rw[IntKind.wrap_i64];omega);have ry:IntKind.i64.wrap ((b:Int)+(i:Int))=(y:Int):=(by rw[IntKind.wrap_i64];omega);have bx:x<dk.size:=(by omega);have bY:y<dk.size:=(by omega);have HX:Hid (x=a+i∧y=b+i):=⟨hx,hy⟩;clear hx hy;have hltz:(i:Int)<(n:Int):=(by omega);go_wp2_with fail;have ea1i:((x:Nat):Int).toNat=x:=(by omega);have pa1i:(0:Int)≤(x:Int):=(by omega);have ba1i:(x:Int)<(d.size:Int):=(by omega);have ea1j:((y:Nat):Int).toNat=y:=(by omega);have pa1j:(0:Int)≤(y:Int):=(by omega);have ba1j:(y:Int)<(d.size:Int):=(by omega);have S2:Aside (SWK enc k w0 blk off (swp dk x y) ((wr.drew.setCells blk (off+x*k) (enc dk[y]!)).setCells blk (off+y*k) (enc dk[x]!))):=S1.out.swapped R x y (by omega) (by omega);have la1:=S1.out.ld1 R (by omega) P x (by omega);have lb1:=S1.out.ld1 R (by omega) P y (by omega);have sa1:=S1.out.st1 R (by omega) P x (by omega) dk[y]!;have sb1:=S1.out.st2 R (by omega) P x y (by omega) (by omega) dk[y]! dk[x]!;have na1:(enc dk[x]!).length=k:=R.hk _;have nb1:(enc dk[y]!).length=k:=R.hk _;generalize enc dk[x]! =cI at S2 la1 sb1 na1;generalize enc dk[y]! =cJ at S2 lb1 sa1 sb1 nb1;clear S1;go_wp2_with fail
   go_big_region_o
   clear la1 lb1 sa1 sb1;generalize (wr.drew.setCells blk (off+x*k) cJ).setCells blk (off+y*k) cI=w2 at S2⊢
   go_wp2
   go_roundg (n - (i+1))
   case measure=>omega
   case rel=>exact⟨i+1,swp dk x y,by go_num,by omega,Nat.le_refl _,by rw[size_swp];exact hds,S2,by show _=_;rw[Z1i,←HD.out,HX.out.1,HX.out.2]⟩
  ·
   have hltz:¬(i:Int)<(n:Int):=(by omega);have hin:i=n:=(by omega);subst hin
   go_wp2
   go_end0
   exact⟨rfl,by rw[←HD.out];exact S1.out⟩
theorem StbCl.rotate {k:Nat}(L:StbCl P k)(enc:α→List Value)(g:Nat)(cb:Array Value)(blk off cap:Nat)(a m b:Nat)(d0 d:Array α)(w0 w:World)
  (R:RowK enc k w0 blk off d0) (hs:d0.size=d.size) (S:SWK enc k w0 blk off d w) (h1:a<m) (h2:m<b) (hb:b≤d.size) (hsz:d.size<4611686018427387904):
  Calls P 138 #[.slice (some ⟨blk,off,none⟩) d.size cap,.int .i64 (a:Int),.int .i64 (m:Int),.int .i64 (b:Int),.func (.func g) #[] cb] w fun e w'=>e= .returned (.tuple #[])∧∃d',SWK enc k w0 blk off d' w'∧PermIn a b d d'∧∀x,d'[x]! =Go.Stb.blk m (m - a) (b - m) d x:=by
 have mixed:=L.mixed;have t0:=L.t0;have a0:=L.a0;have z0:=L.z0;have v0:=L.v0;have t3:=L.t3;have a3:=L.a3;have z3:=L.z3;have v3:=L.v3;have t4:=L.t4;have a4:=L.a4;have z4:=L.z4;have v4:=L.v4;have t22:=L.t22;have a22:=L.a22;have z22:=L.z22;have v22:=L.v22;have t25:=L.t25;have a25:=L.a25;have z25:=L.z25;have v25:=L.v25;have t39:=L.t39;have aE:=L.aE;have zE:=L.zE;have FG:=L.fr;have es:=L.es;have S0:Aside (SWK enc k w0 blk off d w):=S;clear S;go_enter FG,Tryz.ntmps138;have HZ0:0<m - a∧0<b - m∧(m - a)+(b - m)≤b - a:=by omega
 go_wp2_with fail
 go_loopg [10,11] (b - a) (fun kx s10 s11 wr=>∃(i j:Nat) (dk:Array α),s10= .int .i64 (i:Int)∧s11= .int .i64 (j:Int)∧0<i∧0<j∧i≤m - a∧j≤b - m∧i+j≤kx∧dk.size=d.size∧Aside (SWK enc k w0 blk off dk wr)∧Hid (PermIn a b d dk∧∀x,Go.Stb.blk m i j dk x=Go.Stb.blk m (m - a) (b - m) d x))
 case atStart=>exact⟨m - a,b - m,d,by go_num,by go_num,HZ0.1,HZ0.2.1,Nat.le_refl _,Nat.le_refl _,HZ0.2.2,rfl,S0,permIn_refl d a b,fun _=>rfl⟩
 case round=>
  clear S0;obtain⟨i,j,dk,rfl,rfl,hi0,hj0,hi,hj,hkx,hds,S1,HD⟩:=hrel;rcases Nat.lt_trichotomy i j with hij|hij|hij
  ·
   have e1:((i:Int)==(j:Int))=false:=(by simp;omega);have e2:decide ((i:Int)>(j:Int))=false:=(by simp;omega);have HSW:Hid (∀W,SWK enc k w0 blk off dk W→Calls P 166 #[.slice (some ⟨blk,off,none⟩) d.size cap,.int .i64 ((m:Int) - (i:Int)),.int .i64 ((m:Int)+(j:Int) - (i:Int)),.int .i64 (i:Int),.func (.func g) #[] cb] W fun e w'=>e= .returned (.tuple #[])∧SWK enc k w0 blk off (Z1i (m - i) (m+j - i) i dk) w'):=fun W hW=>by have:=L.swapRange enc g cb blk off cap (m - i) (m+j - i) i d0 dk w0 W R (by omega) hW (by omega) (by omega) (by omega);rw[hds]at this;rw[show(m:Int) - (i:Int)=((m - i:Nat):Int) by omega];rw[show(m:Int)+(j:Int) - (i:Int)=((m+j - i:Nat):Int) by omega];exact this
   have HP:Hid (PermIn a b d (Z1i (m - i) (m+j - i) i dk)∧∀x,Go.Stb.blk m i (j - i) (Z1i (m - i) (m+j - i) i dk) x=Go.Stb.blk m (m - a) (b - m) d x):=
    ⟨permIn_trans _ _ _ _ _ HD.out.1 (Z3l (by omega) (by omega) (by omega) (by omega) (by omega)),fun x=>(blk_lt (by omega) (by omega) hij x).trans (HD.out.2 x)⟩
   have hz2:(Z1i (m - i) (m+j - i) i dk).size=d.size:=(by rw[Z2m];exact hds);generalize Z1i (m - i) (m+j - i) i dk=dk2 at HSW HP hz2;go_wp2_with (first|(go_at_fn 166;go_loud (refine(HSW.out _ S1.out).mono ?_);rintro e w2 ⟨rfl,hS2⟩));have S2:Aside (SWK enc k w0 blk off dk2 w2):=hS2;clear hS2 S1
   go_wp2
   go_roundg (i+(j - i))
   case measure=>omega
   case rel=>exact⟨i,j - i,dk2,rfl,by go_num,hi0,by omega,hi,by omega,Nat.le_refl _,hz2,S2,HP⟩
  ·
   subst hij;have e1:((i:Int)==(i:Int))=true:=(by simp);have e2:((i:Int) !=(i:Int))=false:=(by simp);have HSW:Hid (∀W,SWK enc k w0 blk off dk W→Calls P 166 #[.slice (some ⟨blk,off,none⟩) d.size cap,.int .i64 ((m:Int) - (i:Int)),.int .i64 (m:Int),.int .i64 (i:Int),.func (.func g) #[] cb] W fun e w'=>e= .returned (.tuple #[])∧SWK enc k w0 blk off (Z1i (m - i) m i dk) w'):=fun W hW=>by have:=L.swapRange enc g cb blk off cap (m - i) m i d0 dk w0 W R (by omega) hW (by omega) (by omega) (by omega);rw[hds]at this;rw[show(m:Int) - (i:Int)=((m - i:Nat):Int) by omega];exact this
   have HP:Hid (PermIn a b d (Z1i (m - i) m i dk)∧∀x,(Z1i (m - i) m i dk)[x]! =Go.Stb.blk m (m - a) (b - m) d x):=
    ⟨permIn_trans _ _ _ _ _ HD.out.1 (Z3l (by omega) (by omega) (by omega) (by omega) (by omega)),fun x=>(blk_eq (by omega) (by omega) x).trans (HD.out.2 x)⟩
   generalize Z1i (m - i) m i dk=dk2 at HSW HP;go_wp2_with (first|(go_at_fn 166;go_loud (refine(HSW.out _ S1.out).mono ?_);rintro e w2 ⟨rfl,hS2⟩));have S2:Aside (SWK enc k w0 blk off dk2 w2):=hS2;clear hS2 S1
   go_wp2
   go_end0
   exact⟨rfl,dk2,S2.out,HP.out⟩
  ·
   have e1:((i:Int)==(j:Int))=false:=(by simp;omega);have e2:decide ((i:Int)>(j:Int))=true:=(by simp;omega);have HSW:Hid (∀W,SWK enc k w0 blk off dk W→Calls P 166 #[.slice (some ⟨blk,off,none⟩) d.size cap,.int .i64 ((m:Int) - (i:Int)),.int .i64 (m:Int),.int .i64 (j:Int),.func (.func g) #[] cb] W fun e w'=>e= .returned (.tuple #[])∧SWK enc k w0 blk off (Z1i (m - i) m j dk) w'):=fun W hW=>by have:=L.swapRange enc g cb blk off cap (m - i) m j d0 dk w0 W R (by omega) hW (by omega) (by omega) (by omega);rw[hds]at this;rw[show(m:Int) - (i:Int)=((m - i:Nat):Int) by omega];exact this
   have HP:Hid (PermIn a b d (Z1i (m - i) m j dk)∧∀x,Go.Stb.blk m (i - j) j (Z1i (m - i) m j dk) x=Go.Stb.blk m (m - a) (b - m) d x):=
    ⟨permIn_trans _ _ _ _ _ HD.out.1 (Z3l (by omega) (by omega) (by omega) (by omega) (by omega)),fun x=>(blk_gt (by omega) (by omega) hij x).trans (HD.out.2 x)⟩
   have hz2:(Z1i (m - i) m j dk).size=d.size:=(by rw[Z2m];exact hds);generalize Z1i (m - i) m j dk=dk2 at HSW HP hz2;go_wp2_with (first|(go_at_fn 166;go_loud (refine(HSW.out _ S1.out).mono ?_);rintro e w2 ⟨rfl,hS2⟩));have S2:Aside (SWK enc k w0 blk off dk2 w2):=hS2;clear hS2 S1
   go_wp2
   go_roundg ((i - j)+j)
   case measure=>omega
   case rel=>exact⟨i - j,j,dk2,by go_num,rfl,by omega,hj0,by omega,hj,Nat.le_refl _,hz2,S2,HP⟩
variable {P:Program}{α:Type}[Inhabited α]
theorem one_up {d dk:Array α}{a m x:Nat}(hm:m=a+1)(hx:a≤x)(hd:x+1<dk.size)(h:∀z,dk[z]! =Go.Stb.blk m 1 (x - a) d z)(z:Nat):(swp dk x (x+1))[z]! =Go.Stb.blk m 1 (x+1 - a) d z:=by
 subst hm
 have hb:∀q z,Go.Stb.blk (a+1) 1 q d z=if a≤z∧z<a+q then d[z+1]! else if z=a+q then d[a]! else d[z]! :=fun q z=>by
  unfold Go.Stb.blk;by_cases c1:a≤z∧z<a+q
  · rw[if_pos c1,if_pos (by omega)]
  ·
   rw[if_neg c1,if_neg (by omega)];by_cases c2:z=a+q
   · rw[if_pos c2,if_pos (by omega)];congr 1;omega
   · rw[if_neg c2,if_neg (by omega)]
 rw[hb];simp only[hb]at h;by_cases e1:z=x
 · subst e1;rw[swp_left _ _ _ (by omega) (by omega),h,if_neg (by omega),if_neg (by omega),if_pos (by omega)]
 ·
  by_cases e2:z=x+1
  · subst e2;rw[swp_right _ _ _ (by omega),h,if_neg (by omega),if_pos (by omega),if_neg (by omega),if_pos (by omega)]
  ·
   rw[swp_other _ _ _ _ e1 e2,h];by_cases c1:a≤z∧z<a+(x - a)
   · rw[if_pos c1,if_pos (by omega)]
   · rw[if_neg c1,if_neg (by omega),if_neg (by omega),if_neg (by omega)]
theorem one_down {d dk:Array α}{m y:Nat}(hd:m<dk.size)(hx:y+1≤m)(h:∀z,dk[z]! =Go.Stb.blk m (m - (y+1)) 1 d z)(z:Nat):(swp dk (y+1) y)[z]! =Go.Stb.blk m (m - y) 1 d z:=by
 have hb:∀q z,q≤m→Go.Stb.blk m (m - q) 1 d z=if z=q then d[m]! else if q<z∧z≤m then d[z - 1]! else d[z]! :=fun q z hq=>by
  unfold Go.Stb.blk;by_cases c1:z=q
  · rw[if_pos c1,if_pos (by omega)];congr 1;omega
  ·
   rw[if_neg c1,if_neg (by omega)];by_cases c2:q<z∧z≤m
   · rw[if_pos c2,if_pos (by omega)]
   · rw[if_neg c2,if_neg (by omega)]
 rw[hb _ _ (by omega)]
 have h2:∀z,dk[z]! =if z=y+1 then d[m]! else if y+1<z∧z≤m then d[z - 1]! else d[z]! :=fun z=>(h z).trans (hb _ _ hx)
 by_cases e1:z=y+1
 · subst e1;rw[swp_left _ _ _ (by omega) (by omega),h2,if_neg (by omega),if_neg (by omega),if_neg (by omega),if_pos (by omega)];rfl
 ·
  by_cases e2:z=y
  · subst e2;rw[swp_right _ _ _ (by omega),h2,if_pos rfl,if_pos rfl]
  ·
   rw[swp_other _ _ _ _ e1 e2,h2,if_neg e1,if_neg e2];by_cases c1:y+1<z∧z≤m
   · rw[if_pos c1,if_pos (by omega)]
   · rw[if_neg c1,if_neg (by omega)]
theorem StbCl.sym_l {k:Nat}(L:StbCl P k)(cf:α→α→Int)(tag:α→Nat)(hO:SWO (ltOf cf))(enc:α→List Value)(g:Nat)(cb:Array Value)(blk off cap:Nat)(a m b:Nat)(d0 d:Array α)(w0 w:World)(eg:∀args w,(callFunc g args).run P w= .ok (.enter g args) w)(hcmp:CmpLays P g cb enc k cf blk off d0.size w0)(R:RowK enc k w0 blk off d0)(hs:d0.size=d.size)(S:SWK enc k w0 blk off d w)(HRU:Runs (ltOf cf) tag a m b d)(h1:a<m)(h2:m<b)(h3:m=a+1)(hb:b≤d.size)(hsz:d.size<4611686018427387904):
  Calls P 100 #[.slice (some ⟨blk,off,none⟩) d.size cap,.int .i64 (a:Int),.int .i64 (m:Int),.int .i64 (b:Int),.func (.func g) #[] cb] w fun e w'=>e= .returned (.tuple #[])∧∃d',SWK enc k w0 blk off d' w'∧PermIn a b d d'∧SortedIn (Tl (ltOf cf) tag) a b d':=by
 have mixed:=L.mixed;have t0:=L.t0;have a0:=L.a0;have z0:=L.z0;have v0:=L.v0;have t3:=L.t3;have a3:=L.a3;have z3:=L.z3;have v3:=L.v3;have t4:=L.t4;have a4:=L.a4;have z4:=L.z4;have v4:=L.v4;have t22:=L.t22;have a22:=L.a22;have z22:=L.z22;have v22:=L.v22;have t25:=L.t25;have a25:=L.a25;have z25:=L.z25;have v25:=L.v25;have t39:=L.t39;have aE:=L.aE;have zE:=L.zE;have FG:=L.fy;have HC:Aside _:=hcmp;have S0:Aside (SWK enc k w0 blk off d w):=S;have HR:Hid (Runs (ltOf cf) tag a m b d):=HRU;clear S hcmp HRU;have e0:((m:Int) - (a:Int)==1)=true:=by simp;omega
 have H3:=Lib.hid h3;clear h3;go_enter FG,Tryz.ntmps100;go_wp2_with fail
 go_loopg [10,11] (b - a) (fun kx s1 s2 wr=>∃(i j:Nat),s1= .int .i64 (i:Int)∧s2= .int .i64 (j:Int)∧m≤i∧i≤j∧j≤b∧j - i≤kx∧Aside (SWK enc k w0 blk off d wr)∧Hid (((i=m∨ltOf cf d[i - 1]! d[a]! =true)∧(j=b∨ltOf cf d[j]! d[a]! =false))))
 case atStart=>exact⟨m,b,rfl,rfl,Nat.le_refl _,by omega,Nat.le_refl _,by omega,S0,.inl rfl,.inl rfl⟩
 case round=>
  clear S0;obtain⟨i,j,rfl,rfl,hli,hij,hjh,hkx,S1,HF⟩:=hrel;by_cases hlt:i<j
  ·
   have hd:decide (i<j)=true:=(by simpa using hlt);obtain⟨h,hh⟩:∃h,h=(i+j) / 2:=⟨_,rfl⟩;have hh1:i≤h:=(by omega);have hh2:h<j:=(by omega);have hme:((i:Int)+(j:Int)) / 2=(h:Int):=(by omega);clear hh;cases hcv:ltOf cf d[h]! d[a]! with
   |true=>
    have HCV:=Lib.hid hcv;have eacvi:((h:Nat):Int).toNat=h:=(by omega);have pacvi:(0:Int)≤(h:Int):=(by omega);have bacvi:(h:Int)<(d.size:Int):=(by omega);have eacvj:((a:Nat):Int).toNat=a:=(by omega);have pacvj:(0:Int)≤(a:Int):=(by omega);have bacvj:(a:Int)<(d.size:Int):=(by omega);obtain⟨xcv,hxcv⟩:∃z,z=d[h]! :=⟨_,rfl⟩;obtain⟨ycv,hycv⟩:∃z,z=d[a]! :=⟨_,rfl⟩;have lacv:=S1.out.ld R (by omega) P h (by omega);have lbcv:=S1.out.ld R (by omega) P a (by omega);rw[←hxcv]at lacv;rw[←hycv]at lbcv;have hccv:=S1.out.cmp HC.out (by omega) xcv ycv;have hvcv:cf xcv ycv<0:=(by rw[hxcv,hycv];exact of_decide_eq_true HCV.out);have hdcv:decide (cf xcv ycv<0)=true:=decide_eq_true hvcv;clear hxcv hycv hcv;go_wp2_with fail
    go_quiet_grown (first|(go_at_fn g;refine Calls.grown_of (hccv _ _)))
    have S2:Aside (SWK enc k w0 blk off d (grow (wr.drewN nq) osq)):=S1.out.grown nq osq;clear lacv lbcv hccv S1;generalize grow (wr.drewN nq) osq=w2 at S2⊢;clear nq osq
    go_wp2
    go_roundg (j - (h+1))
    case measure=>omega
    case rel=>exact⟨h+1,j,by go_num,rfl,by omega,by omega,hjh,Nat.le_refl _,S2,.inr (by rw[Nat.add_sub_cancel];exact HCV.out),HF.out.2⟩
   |false=>
    have HCV:=Lib.hid hcv;have eacvi:((h:Nat):Int).toNat=h:=(by omega);have pacvi:(0:Int)≤(h:Int):=(by omega);have bacvi:(h:Int)<(d.size:Int):=(by omega);have eacvj:((a:Nat):Int).toNat=a:=(by omega);have pacvj:(0:Int)≤(a:Int):=(by omega);have bacvj:(a:Int)<(d.size:Int):=(by omega);obtain⟨xcv,hxcv⟩:∃z,z=d[h]! :=⟨_,rfl⟩;obtain⟨ycv,hycv⟩:∃z,z=d[a]! :=⟨_,rfl⟩;have lacv:=S1.out.ld R (by omega) P h (by omega);have lbcv:=S1.out.ld R (by omega) P a (by omega);rw[←hxcv]at lacv;rw[←hycv]at lbcv;have hccv:=S1.out.cmp HC.out (by omega) xcv ycv;have hvcv:¬cf xcv ycv<0:=(by rw[hxcv,hycv];exact of_decide_eq_false HCV.out);have hdcv:decide (cf xcv ycv<0)=false:=decide_eq_false hvcv;clear hxcv hycv hcv;go_wp2_with fail
    go_quiet_grown (first|(go_at_fn g;refine Calls.grown_of (hccv _ _)))
    have S2:Aside (SWK enc k w0 blk off d (grow (wr.drewN nq) osq)):=S1.out.grown nq osq;clear lacv lbcv hccv S1;generalize grow (wr.drewN nq) osq=w2 at S2⊢;clear nq osq
    go_wp2
    go_roundg (h - i)
    case measure=>omega
    case rel=>exact⟨i,h,rfl,rfl,hli,hh1,by omega,Nat.le_refl _,S2,HF.out.1,.inr HCV.out⟩
  ·
   have hd:decide (i<j)=false:=(by simpa using hlt);obtain rfl:i=j:=(by omega);go_wp2_with fail
   go_loopg [13] (b - a) (fun kx s1 wr=>∃(x:Nat) (dk:Array α),s1= .int .i64 (x:Int)∧a≤x∧x≤i - 1∧i - 1 - x≤kx∧dk.size=d.size∧Aside (SWK enc k w0 blk off dk wr)∧Hid (PermIn a b d dk∧∀z,dk[z]! =Go.Stb.blk m 1 (x - a) d z))
   case atStart=>exact⟨a,d,rfl,Nat.le_refl _,by omega,by omega,rfl,S1,permIn_refl d a b,fun z=>by rw[show a - a=0 by omega,blk_zr]⟩
   case round=>
    clear S1 hd hlt;obtain⟨x,dk,rfl,hx1,hx2,hkx2,hds,S1,HP⟩:=hrel;by_cases hlx:x<i - 1
    ·
     have hdx:decide ((x:Int)<(i:Int) - 1)=true:=by simp;omega
     have HP2:Hid (PermIn a b d (swp dk x (x+1))∧∀z,(swp dk x (x+1))[z]! =Go.Stb.blk m 1 (x+1 - a) d z):=
      ⟨permIn_trans _ _ _ _ _ HP.out.1 (swp_permIn _ _ _ _ _ (by omega) (by omega) (by omega) (by omega) (by omega)),one_up H3.out hx1 (by omega) HP.out.2⟩
     obtain⟨y,hy⟩:∃y,y=x+1:=⟨_,rfl⟩;have ry:IntKind.i64.wrap ((x:Int)+1)=(y:Int):=(by rw[IntKind.wrap_i64];omega);have hxd:x<dk.size:=(by omega);have hyd:y<dk.size:=(by omega);rw[←hy]at HP2;have HY:=Lib.hid hy;clear hy;go_wp2_with fail;have easi:((x:Nat):Int).toNat=x:=(by omega);have pasi:(0:Int)≤(x:Int):=(by omega);have basi:(x:Int)<(d.size:Int):=(by omega);have easj:((y:Nat):Int).toNat=y:=(by omega);have pasj:(0:Int)≤(y:Int):=(by omega);have basj:(y:Int)<(d.size:Int):=(by omega);have S2:Aside (SWK enc k w0 blk off (swp dk x y) ((wr.drew.setCells blk (off+x*k) (enc dk[y]!)).setCells blk (off+y*k) (enc dk[x]!))):=S1.out.swapped R x y (by omega) (by omega);have las:=S1.out.ld1 R (by omega) P x (by omega);have lbs:=S1.out.ld1 R (by omega) P y (by omega);have sas:=S1.out.st1 R (by omega) P x (by omega) dk[y]!;have sbs:=S1.out.st2 R (by omega) P x y (by omega) (by omega) dk[y]! dk[x]!;have nas:(enc dk[x]!).length=k:=R.hk _;have nbs:(enc dk[y]!).length=k:=R.hk _;generalize enc dk[x]! =cI at S2 las sbs nas;generalize enc dk[y]! =cJ at S2 lbs sas sbs nbs;clear S1;go_wp2_with fail
     go_big_region_o
     clear las lbs sas sbs;generalize (wr.drew.setCells blk (off+x*k) cJ).setCells blk (off+y*k) cI=w2 at S2⊢
     go_wp2
     have hy:=HY.out
     go_roundg (i - 1 - y)
     case measure=>omega
     case rel=>exact⟨y,swp dk x y,by go_num,by omega,by omega,Nat.le_refl _,by rw[size_swp];exact hds,S2,HP2⟩
    ·
     have hdx:decide ((x:Int)<(i:Int) - 1)=false:=(by simp;omega);have HXE:Hid (x=i - 1):=by show _=_;omega
     go_wp2
     refine bodyPost_ret (v:= .tuple #[]) (results_none (by kernel_rfl) _ _ _) rfl ?_;refine⟨rfl,dk,S1.out,HP.out.1, ?_⟩;have h3:=H3.out;subst h3;exact Ze3 hO HR.out hli hjh (by omega) HF.out.1 HF.out.2 (fun z=>by have hxe:=HXE.out;rw[HP.out.2 z,show x - a=i - (a+1) by omega]) hds
theorem StbCl.sym_r {k:Nat}(L:StbCl P k)(cf:α→α→Int)(tag:α→Nat)(hO:SWO (ltOf cf))(enc:α→List Value)(g:Nat)(cb:Array Value)(blk off cap:Nat)(a m b:Nat)(d0 d:Array α)(w0 w:World)(eg:∀args w,(callFunc g args).run P w= .ok (.enter g args) w)(hcmp:CmpLays P g cb enc k cf blk off d0.size w0)(R:RowK enc k w0 blk off d0)(hs:d0.size=d.size)(S:SWK enc k w0 blk off d w)(HRU:Runs (ltOf cf) tag a m b d)(h1:a<m)(h2:m<b)(h3:m≠a+1∧b=m+1)(hb:b≤d.size)(hsz:d.size<4611686018427387904):
  Calls P 100 #[.slice (some ⟨blk,off,none⟩) d.size cap,.int .i64 (a:Int),.int .i64 (m:Int),.int .i64 (b:Int),.func (.func g) #[] cb] w fun e w'=>e= .returned (.tuple #[])∧∃d',SWK enc k w0 blk off d' w'∧PermIn a b d d'∧SortedIn (Tl (ltOf cf) tag) a b d':=by
 have mixed:=L.mixed;have t0:=L.t0;have a0:=L.a0;have z0:=L.z0;have v0:=L.v0;have t3:=L.t3;have a3:=L.a3;have z3:=L.z3;have v3:=L.v3;have t4:=L.t4;have a4:=L.a4;have z4:=L.z4;have v4:=L.v4;have t22:=L.t22;have a22:=L.a22;have z22:=L.z22;have v22:=L.v22;have t25:=L.t25;have a25:=L.a25;have z25:=L.z25;have v25:=L.v25;have t39:=L.t39;have aE:=L.aE;have zE:=L.zE;have FG:=L.fy;have HC:Aside _:=hcmp;have S0:Aside (SWK enc k w0 blk off d w):=S;have HR:Hid (Runs (ltOf cf) tag a m b d):=HRU;clear S hcmp HRU;have e0:((m:Int) - (a:Int)==1)=false:=by simp;omega
 have e1:((b:Int) - (m:Int)==1)=true:=by simp;omega
 have H3:=Lib.hid h3;clear h3;go_enter FG,Tryz.ntmps100;go_wp2_with fail
 go_loopg [14,15] (b - a) (fun kx s1 s2 wr=>∃(i j:Nat),s1= .int .i64 (i:Int)∧s2= .int .i64 (j:Int)∧a≤i∧i≤j∧j≤m∧j - i≤kx∧Aside (SWK enc k w0 blk off d wr)∧Hid (((i=a∨ltOf cf d[m]! d[i - 1]! =false)∧(j=m∨ltOf cf d[m]! d[j]! =true))))
 case atStart=>exact⟨a,m,rfl,rfl,Nat.le_refl _,by omega,Nat.le_refl _,by omega,S0,.inl rfl,.inl rfl⟩
 case round=>
  clear S0;obtain⟨i,j,rfl,rfl,hli,hij,hjh,hkx,S1,HF⟩:=hrel;by_cases hlt:i<j
  ·
   have hd:decide (i<j)=true:=(by simpa using hlt);obtain⟨h,hh⟩:∃h,h=(i+j) / 2:=⟨_,rfl⟩;have hh1:i≤h:=(by omega);have hh2:h<j:=(by omega);have hme:((i:Int)+(j:Int)) / 2=(h:Int):=(by omega);clear hh;cases hcv:ltOf cf d[m]! d[h]! with
   |true=>
    have HCV:=Lib.hid hcv;have eacvi:((m:Nat):Int).toNat=m:=(by omega);have pacvi:(0:Int)≤(m:Int):=(by omega);have bacvi:(m:Int)<(d.size:Int):=(by omega);have eacvj:((h:Nat):Int).toNat=h:=(by omega);have pacvj:(0:Int)≤(h:Int):=(by omega);have bacvj:(h:Int)<(d.size:Int):=(by omega);obtain⟨xcv,hxcv⟩:∃z,z=d[m]! :=⟨_,rfl⟩;obtain⟨ycv,hycv⟩:∃z,z=d[h]! :=⟨_,rfl⟩;have lacv:=S1.out.ld R (by omega) P m (by omega);have lbcv:=S1.out.ld R (by omega) P h (by omega);rw[←hxcv]at lacv;rw[←hycv]at lbcv;have hccv:=S1.out.cmp HC.out (by omega) xcv ycv;have hvcv:cf xcv ycv<0:=(by rw[hxcv,hycv];exact of_decide_eq_true HCV.out);have hdcv:decide (cf xcv ycv<0)=true:=decide_eq_true hvcv;clear hxcv hycv hcv;go_wp2_with fail
    go_quiet_grown (first|(go_at_fn g;refine Calls.grown_of (hccv _ _)))
    have S2:Aside (SWK enc k w0 blk off d (grow (wr.drewN nq) osq)):=S1.out.grown nq osq;clear lacv lbcv hccv S1;generalize grow (wr.drewN nq) osq=w2 at S2⊢;clear nq osq
    go_wp2
    go_roundg (h - i)
    case measure=>omega
    case rel=>exact⟨i,h,rfl,rfl,hli,hh1,by omega,Nat.le_refl _,S2,HF.out.1,.inr HCV.out⟩
   |false=>
    have HCV:=Lib.hid hcv;have eacvi:((m:Nat):Int).toNat=m:=(by omega);have pacvi:(0:Int)≤(m:Int):=(by omega);have bacvi:(m:Int)<(d.size:Int):=(by omega);have eacvj:((h:Nat):Int).toNat=h:=(by omega);have pacvj:(0:Int)≤(h:Int):=(by omega);have bacvj:(h:Int)<(d.size:Int):=(by omega);obtain⟨xcv,hxcv⟩:∃z,z=d[m]! :=⟨_,rfl⟩;obtain⟨ycv,hycv⟩:∃z,z=d[h]! :=⟨_,rfl⟩;have lacv:=S1.out.ld R (by omega) P m (by omega);have lbcv:=S1.out.ld R (by omega) P h (by omega);rw[←hxcv]at lacv;rw[←hycv]at lbcv;have hccv:=S1.out.cmp HC.out (by omega) xcv ycv;have hvcv:¬cf xcv ycv<0:=(by rw[hxcv,hycv];exact of_decide_eq_false HCV.out);have hdcv:decide (cf xcv ycv<0)=false:=decide_eq_false hvcv;clear hxcv hycv hcv;go_wp2_with fail
    go_quiet_grown (first|(go_at_fn g;refine Calls.grown_of (hccv _ _)))
    have S2:Aside (SWK enc k w0 blk off d (grow (wr.drewN nq) osq)):=S1.out.grown nq osq;clear lacv lbcv hccv S1;generalize grow (wr.drewN nq) osq=w2 at S2⊢;clear nq osq
    go_wp2
    go_roundg (j - (h+1))
    case measure=>omega
    case rel=>exact⟨h+1,j,by go_num,rfl,by omega,by omega,hjh,Nat.le_refl _,S2,.inr (by rw[Nat.add_sub_cancel];exact HCV.out),HF.out.2⟩
  ·
   have hd:decide (i<j)=false:=(by simpa using hlt);obtain rfl:i=j:=(by omega);go_wp2_with fail
   go_loopg [17] (b - a) (fun kx s1 wr=>∃(x:Nat) (dk:Array α),s1= .int .i64 (x:Int)∧i≤x∧x≤m∧x - i≤kx∧dk.size=d.size∧Aside (SWK enc k w0 blk off dk wr)∧Hid (PermIn a b d dk∧∀z,dk[z]! =Go.Stb.blk m (m - x) 1 d z))
   case atStart=>exact⟨m,d,rfl,hjh,Nat.le_refl _,by omega,rfl,S1,permIn_refl d a b,fun z=>by rw[Nat.sub_self,blk_zl]⟩
   case round=>
    clear S1 hd hlt;obtain⟨x,dk,rfl,hx1,hx2,hkx2,hds,S1,HP⟩:=hrel;by_cases hlx:i<x
    ·
     have hdx:decide (i<x)=true:=(by simpa using hlx);obtain⟨y,hy⟩:∃y,x=y+1:=⟨x - 1,by omega⟩;have HP2:Hid (PermIn a b d (swp dk x y)∧∀z,(swp dk x y)[z]! =Go.Stb.blk m (m - y) 1 d z):=(by subst hy;exact⟨permIn_trans _ _ _ _ _ HP.out.1 (swp_permIn _ _ _ _ _ (by omega) (by omega) (by omega) (by omega) (by omega)),one_down (by omega) hx2 HP.out.2⟩);have hxd:x<dk.size:=(by omega);have hyd:y<dk.size:=(by omega);have ry:IntKind.i64.wrap ((x:Int) - 1)=(y:Int):=(by rw[IntKind.wrap_i64];omega);have HY:=Lib.hid hy;clear hy;go_wp2_with fail;have easi:((x:Nat):Int).toNat=x:=(by omega);have pasi:(0:Int)≤(x:Int):=(by omega);have basi:(x:Int)<(d.size:Int):=(by omega);have easj:((y:Nat):Int).toNat=y:=(by omega);have pasj:(0:Int)≤(y:Int):=(by omega);have basj:(y:Int)<(d.size:Int):=(by omega);have S2:Aside (SWK enc k w0 blk off (swp dk x y) ((wr.drew.setCells blk (off+x*k) (enc dk[y]!)).setCells blk (off+y*k) (enc dk[x]!))):=S1.out.swapped R x y (by omega) (by omega);have las:=S1.out.ld1 R (by omega) P x (by omega);have lbs:=S1.out.ld1 R (by omega) P y (by omega);have sas:=S1.out.st1 R (by omega) P x (by omega) dk[y]!;have sbs:=S1.out.st2 R (by omega) P x y (by omega) (by omega) dk[y]! dk[x]!;have nas:(enc dk[x]!).length=k:=R.hk _;have nbs:(enc dk[y]!).length=k:=R.hk _;generalize enc dk[x]! =cI at S2 las sbs nas;generalize enc dk[y]! =cJ at S2 lbs sas sbs nbs;clear S1;go_wp2_with fail
     go_big_region_o
     clear las lbs sas sbs;generalize (wr.drew.setCells blk (off+x*k) cJ).setCells blk (off+y*k) cI=w2 at S2⊢
     go_wp2
     have hy:=HY.out
     go_roundg (y - i)
     case measure=>omega
     case rel=>exact⟨y,swp dk x y,by go_num,by omega,by omega,Nat.le_refl _,by rw[size_swp];exact hds,S2,HP2⟩
    ·
     have hdx:decide (i<x)=false:=(by simpa using hlx);have HXE:Hid (x=i):=by show _=_;omega
     go_wp2
     refine bodyPost_ret (v:= .tuple #[]) (results_none (by kernel_rfl) _ _ _) rfl ?_;refine⟨rfl,dk,S1.out,HP.out.1, ?_⟩;obtain⟨h3a,h3b⟩:=H3.out;subst h3b;exact Ze4 hO HR.out hli hjh (by omega) HF.out.1 HF.out.2 (fun z=>by have hxe:=HXE.out;rw[←hxe];exact HP.out.2 z) hds
variable {P:Program}{α:Type}[Inhabited α]
theorem Zbz {lt:α→α→Bool}{tag:α→Nat}{a m b:Nat}{d d':Array α}(h:Runs lt tag a m b d)(hx:∀x,a≤x→d'[x]! =d[x]!)(hm:a≤m):Runs lt tag a m b d':=
 ⟨fun i j hi hij hj=>by rw[hx i hi,hx j (by omega)];exact h.l i j hi hij hj,fun i j hi hij hj=>by rw[hx i (by omega),hx j (by omega)];exact h.r i j hi hij hj,
  fun x y h1 h2 h3 h4=>by rw[hx x h1,hx y (by omega)];exact h.t x y h1 h2 h3 h4⟩
structure Prt (lt:α→α→Bool)(tag:α→Nat)(a s mid e b:Nat)(d1:Array α):Prop where
 l:Runs lt tag a s mid d1
 r:Runs lt tag mid e b d1
 x:∀x y,a≤x→x<mid→mid≤y→y<b→Tl lt tag d1[y]! d1[x]! =false
theorem prt_of {lt:α→α→Bool}{tag:α→Nat}(hO:SWO lt){a m b s e mid:Nat}{d d1:Array α}(R:Runs lt tag a m b d)(C:Cut lt tag a m b d s e)(hm:s+(e - m)=mid)(hd:∀x,d1[x]! =Go.Stb.blk m (m - s) (e - m) d x):Prt lt tag a s mid e b d1:=by
 obtain⟨h1,h2,h3⟩:=Z7e hO R C hd;rw[hm]at h1 h2 h3;exact⟨h1,h2,h3⟩
theorem prt_none {lt:α→α→Bool}{tag:α→Nat}(hO:SWO lt){a m b s e mid:Nat}{d:Array α}(R:Runs lt tag a m b d)(C:Cut lt tag a m b d s e)(hm:s+(e - m)=mid)(hn:¬(s<m∧m<e)):Prt lt tag a s mid e b d:=by
 refine prt_of hO R C hm fun x=> ?_;have h1:=C.sm;have h2:=C.me;by_cases h:s<m
 · have:e - m=0:=(by omega);rw[this,blk_zr]
 · have:m - s=0:=(by omega);rw[this,blk_zl]
theorem StbCl.sym_g {k:Nat}(L:StbCl P k)(cf:α→α→Int)(tag:α→Nat)(hO:SWO (ltOf cf))(enc:α→List Value)(g:Nat)(cb:Array Value)(blk off cap:Nat)(a m b:Nat)(d0 d:Array α)(w0 w:World)(eg:∀args w,(callFunc g args).run P w= .ok (.enter g args) w)(hcmp:CmpLays P g cb enc k cf blk off d0.size w0)(R:RowK enc k w0 blk off d0)(hs:d0.size=d.size)(S:SWK enc k w0 blk off d w)(HRU:Runs (ltOf cf) tag a m b d)(h1:a<m)(h2:m<b)(h3:m≠a+1)(h4:b≠m+1)(hb:b≤d.size)(hsz:d.size<4611686018427387904)
  (IH:∀(a' m' b':Nat) (d':Array α) (W:World),b' - a'<b - a→a'<m'→m'<b'→b'≤d.size→d'.size=d.size→Runs (ltOf cf) tag a' m' b' d'→SWK enc k w0 blk off d' W→Calls P 100 #[.slice (some ⟨blk,off,none⟩) d.size cap,.int .i64 (a':Int),.int .i64 (m':Int),.int .i64 (b':Int),.func (.func g) #[] cb] W (fun e w'=>e= .returned (.tuple #[])∧∃dd,SWK enc k w0 blk off dd w'∧PermIn a' b' d' dd∧SortedIn (Tl (ltOf cf) tag) a' b' dd)):
  Calls P 100 #[.slice (some ⟨blk,off,none⟩) d.size cap,.int .i64 (a:Int),.int .i64 (m:Int),.int .i64 (b:Int),.func (.func g) #[] cb] w (fun e w'=>e= .returned (.tuple #[])∧∃dd,SWK enc k w0 blk off dd w'∧PermIn a b d dd∧SortedIn (Tl (ltOf cf) tag) a b dd):=by
 have mixed:=L.mixed;have t0:=L.t0;have a0:=L.a0;have z0:=L.z0;have v0:=L.v0;have t3:=L.t3;have a3:=L.a3;have z3:=L.z3;have v3:=L.v3;have t4:=L.t4;have a4:=L.a4;have z4:=L.z4;have v4:=L.v4;have t22:=L.t22;have a22:=L.a22;have z22:=L.z22;have v22:=L.v22;have t25:=L.t25;have a25:=L.a25;have z25:=L.z25;have v25:=L.v25;have t39:=L.t39;have aE:=L.aE;have zE:=L.zE;have FG:=L.fy;have er:=L.er;have ey:=L.ey;have HC:Aside _:=hcmp;have S0:Aside (SWK enc k w0 blk off d w):=S;have HR:Hid (Runs (ltOf cf) tag a m b d):=HRU;have HIH:=Lib.hid IH;have HO:=Lib.hid hO;clear S hcmp HRU IH hO;have e0:((m:Int) - (a:Int)==1)=false:=by simp;omega
 have e1:((b:Int) - (m:Int)==1)=false:=by simp;omega
 obtain⟨mid,hmid⟩:∃mid,mid=(a+b) / 2:=⟨_,rfl⟩;have hme:((a:Int)+(b:Int)) / 2=(mid:Int):=by omega
 have HBN:=Lib.hid (bnds h1 h2 hmid);have HMD:=Lib.hid hmid;have hm1:a≤mid:=by omega
 have hm2:mid<b:=by omega
 clear hmid;obtain⟨lo,hlo⟩:∃lo,lo0 a m b mid=lo:=⟨_,rfl⟩;obtain⟨hi,hhi⟩:∃hi,hi0 m mid=hi:=⟨_,rfl⟩;rw[hlo,hhi]at HBN;have HLO:=Lib.hid hlo;have HHI:=Lib.hid hhi;clear hlo hhi;go_enter FG,Tryz.ntmps100
 go_upto_if 140 with(fail)
 go_cut [20,21] (fun v20 v21 wx=>v20= .int .i64 (lo:Int)∧v21= .int .i64 (hi:Int)∧wx=w)
 case first=>
  as_aux_lemma=>
  by_cases hc:mid<m
  ·
   have hcb:decide ((m:Int)>(mid:Int))=true:=(by simp;omega);have hcb2:decide (mid<m)=true:=(by simpa using hc);have HQ1:Hid ((mid:Int)+(m:Int) - (b:Int)=(lo:Int)):=(by show _=_;have:=HLO.out;unfold lo0 at this;rw[if_pos hc]at this;have:=HBN.out;omega);have HQ2:Hid (mid=hi):=(by have:=HHI.out;unfold hi0 at this;rw[if_pos hc]at this;exact this);clear HBN;go_wp2_with fail;go_meet
   case rel=>exact⟨by rw[HQ1.out],by rw[HQ2.out],rfl⟩
  ·
   have hcb:decide ((m:Int)>(mid:Int))=false:=(by simp;omega);have hcb2:decide (mid<m)=false:=(by simpa using hc);have HQ1:Hid (a=lo):=(by have:=HLO.out;unfold lo0 at this;rw[if_neg hc]at this;exact this);have HQ2:Hid (m=hi):=(by have:=HHI.out;unfold hi0 at this;rw[if_neg hc]at this;exact this);clear HBN;go_wp2_with fail;go_meet
   case rel=>exact⟨by rw[HQ1.out],by rw[HQ2.out],rfl⟩
 case rest=>
 obtain⟨rfl,rfl,hwc⟩:=hcut;subst hwc;have hb5:a≤lo∧lo≤hi∧hi≤m∧hi≤mid∧mid+m≤b+lo:=HBN.out;obtain⟨q1,q2,q3,q4,q5⟩:=hb5;go_wp2_with fail
 go_loopg [20,21] (b - a) (fun kx s1 s2 wr=>∃(s r:Nat),s1= .int .i64 (s:Int)∧s2= .int .i64 (r:Int)∧lo≤s∧s≤r∧r≤hi∧r - s≤kx∧Aside (SWK enc k w0 blk off d wr)∧Hid ((s=lo∨ltOf cf d[mid+m - s]! d[s - 1]! =false)∧(r=hi∨ltOf cf d[mid+m - r - 1]! d[r]! =true)))
 case atStart=>exact⟨lo,hi,rfl,rfl,Nat.le_refl _,by omega,Nat.le_refl _,by omega,S0,.inl rfl,.inl rfl⟩
 case round=>
  clear S0;obtain⟨s,r,rfl,rfl,hls,hsr,hrh,hkx,S1,HF⟩:=hrel;by_cases hlt:s<r
  ·
   have hd:decide (s<r)=true:=(by simpa using hlt);obtain⟨c,hh⟩:∃c,c=(s+r) / 2:=⟨_,rfl⟩;have hh1:s≤c:=(by omega);have hh2:c<r:=(by omega);have hme2:((s:Int)+(r:Int)) / 2=(c:Int):=(by omega);clear hh;obtain⟨x,hx⟩:∃x,x=mid+m - c - 1:=⟨_,rfl⟩;have rx:IntKind.i64.wrap ((mid:Int)+(m:Int) - 1 - (c:Int))=(x:Int):=(by rw[IntKind.wrap_i64];omega);have hxd:x<d.size:=(by omega);have hcd:c<d.size:=(by omega);have HX:=Lib.hid hx;clear hx;cases hcv:ltOf cf d[x]! d[c]! with
   |true=>
    have HCV:=Lib.hid hcv;have eacvi:((x:Nat):Int).toNat=x:=(by omega);have pacvi:(0:Int)≤(x:Int):=(by omega);have bacvi:(x:Int)<(d.size:Int):=(by omega);have eacvj:((c:Nat):Int).toNat=c:=(by omega);have pacvj:(0:Int)≤(c:Int):=(by omega);have bacvj:(c:Int)<(d.size:Int):=(by omega);obtain⟨xcv,hxcv⟩:∃z,z=d[x]! :=⟨_,rfl⟩;obtain⟨ycv,hycv⟩:∃z,z=d[c]! :=⟨_,rfl⟩;have lacv:=S1.out.ld R (by omega) P x (by omega);have lbcv:=S1.out.ld R (by omega) P c (by omega);rw[←hxcv]at lacv;rw[←hycv]at lbcv;have hccv:=S1.out.cmp HC.out (by omega) xcv ycv;have hvcv:cf xcv ycv<0:=(by rw[hxcv,hycv];exact of_decide_eq_true HCV.out);have hdcv:decide (cf xcv ycv<0)=true:=decide_eq_true hvcv;clear hxcv hycv hcv;go_wp2_with fail
    go_quiet_grown (first|(go_at_fn g;refine Calls.grown_of (hccv _ _)))
    have S2:Aside (SWK enc k w0 blk off d (grow (wr.drewN nq) osq)):=S1.out.grown nq osq;clear lacv lbcv hccv S1;generalize grow (wr.drewN nq) osq=w2 at S2⊢;clear nq osq
    go_wp2
    go_roundg (c - s)
    case measure=>omega
    case rel=>exact⟨s,c,rfl,rfl,hls,hh1,by omega,Nat.le_refl _,S2,HF.out.1,.inr (by have hx:=HX.out;rw[←hx];exact HCV.out)⟩
   |false=>
    have HCV:=Lib.hid hcv;have eacvi:((x:Nat):Int).toNat=x:=(by omega);have pacvi:(0:Int)≤(x:Int):=(by omega);have bacvi:(x:Int)<(d.size:Int):=(by omega);have eacvj:((c:Nat):Int).toNat=c:=(by omega);have pacvj:(0:Int)≤(c:Int):=(by omega);have bacvj:(c:Int)<(d.size:Int):=(by omega);obtain⟨xcv,hxcv⟩:∃z,z=d[x]! :=⟨_,rfl⟩;obtain⟨ycv,hycv⟩:∃z,z=d[c]! :=⟨_,rfl⟩;have lacv:=S1.out.ld R (by omega) P x (by omega);have lbcv:=S1.out.ld R (by omega) P c (by omega);rw[←hxcv]at lacv;rw[←hycv]at lbcv;have hccv:=S1.out.cmp HC.out (by omega) xcv ycv;have hvcv:¬cf xcv ycv<0:=(by rw[hxcv,hycv];exact of_decide_eq_false HCV.out);have hdcv:decide (cf xcv ycv<0)=false:=decide_eq_false hvcv;clear hxcv hycv hcv;go_wp2_with fail
    go_quiet_grown (first|(go_at_fn g;refine Calls.grown_of (hccv _ _)))
    have S2:Aside (SWK enc k w0 blk off d (grow (wr.drewN nq) osq)):=S1.out.grown nq osq;clear lacv lbcv hccv S1;generalize grow (wr.drewN nq) osq=w2 at S2⊢;clear nq osq
    go_wp2
    go_roundg (r - (c+1))
    case measure=>omega
    case rel=>exact⟨c+1,r,by go_num,rfl,by omega,by omega,hrh,Nat.le_refl _,S2,.inr (by have hx:=HX.out;rw[Nat.add_sub_cancel,show mid+m - (c+1)=x by omega];exact HCV.out),HF.out.2⟩
  ·
   have hd:decide (s<r)=false:=(by simpa using hlt);obtain rfl:s=r:=(by omega);have HCUT:Hid (Cut (ltOf cf) tag a m b d s (mid+m - s)):=Zby HR.out h1 h2 HMD.out (by rw[HLO.out];exact hls) (by rw[HHI.out];exact hrh) (by rw[HLO.out];exact HF.out.1) (by rw[HHI.out];exact HF.out.2);obtain⟨e,he⟩:∃e,mid+m - s=e:=⟨_,rfl⟩;rw[he]at HCUT;have hes:(mid:Int)+(m:Int) - (s:Int)=(e:Int):=(by omega);have HSE:Hid (s+(e - m)=mid):=(by show _=_;omega);have c1:a≤s:=HCUT.out.as;have c2:s≤m:=HCUT.out.sm;have c3:m≤e:=HCUT.out.me;have c4:e≤b:=HCUT.out.eb;have c5:s≤mid:=(by omega);have c6:mid≤e:=(by omega);have HDS:=Lib.hid hs;have HES:=Lib.hid hes;clear HBN HLO HHI HMD HF he hls hsr hrh hkx hlt hs hes;obtain⟨ro,hro⟩:∃ro:Bool,ro=(decide (s<m) && decide (m<e)):=⟨_,rfl⟩;have HRO:=Lib.hid hro;clear hro;go_upto_region 39 with(fail)
   go_cut [24,185] (fun v24 vb wx=>v24= .int .i64 (e:Int)∧vb= .bool ro∧wx=wr)
   case first=>
    as_aux_lemma=>
    have hes:=HES.out;cases hg1:decide (s<m)with
    |true=>
     cases hg2:decide (m<e)with
     |true=>
      have hro2:ro=true:=(by rw[HRO.out,hg1,hg2];rfl);go_wp2_with fail;go_meet
      case rel=>exact⟨by first|rfl|rw[HES.out],by rw[hro2],rfl⟩
     |false=>
      have hro2:ro=false:=(by rw[HRO.out,hg1,hg2];rfl);go_wp2_with fail;go_meet
      case rel=>exact⟨by first|rfl|rw[HES.out],by rw[hro2],rfl⟩
    |false=>
     have hro2:ro=false:=(by rw[HRO.out,hg1];rfl);go_wp2_with fail;go_meet
     case rel=>exact⟨by first|rfl|rw[HES.out],by rw[hro2],rfl⟩
   case rest=>
   obtain⟨rfl,rfl,hwc⟩:=hcut;subst hwc
   go_upto_if 185 with(fail)
   go_cut [] (fun wx=>∃d1:Array α,d1.size=d.size∧Aside (SWK enc k w0 blk off d1 wx)∧Hid (PermIn a b d d1∧Prt (ltOf cf) tag a s mid e b d1))
   case first=>
    as_aux_lemma=>
    cases ro with
    |true=>
     have hr1:s<m:=(by have h:=HRO.out;simp only[Bool.true_eq,Bool.and_eq_true,decide_eq_true_eq]at h;exact h.1);have hr2:m<e:=by have h:=HRO.out;simp only[Bool.true_eq,Bool.and_eq_true,decide_eq_true_eq]at h;exact h.2
     have HROT:Hid (∀W,SWK enc k w0 blk off d W→Calls P 138 #[.slice (some ⟨blk,off,none⟩) d.size cap,.int .i64 (s:Int),.int .i64 (m:Int),.int .i64 (e:Int),.func (.func g) #[] cb] W fun e' w'=>e'= .returned (.tuple #[])∧∃d1:Array α,SWK enc k w0 blk off d1 w'∧d1.size=d.size∧PermIn a b d d1∧Prt (ltOf cf) tag a s mid e b d1):=fun W hW=>
      (L.rotate enc g cb blk off cap s m e d0 d w0 W R HDS.out hW hr1 hr2 (by omega) hsz).mono fun e' w' ⟨he',d1,hS,hP,hX⟩=>⟨he',d1,hS,hP.1,permIn_mono _ _ _ _ _ _ c1 c4 hb hP,prt_of HO.out HR.out HCUT.out HSE.out hX⟩
     clear HCUT HIH hr1 hr2;go_wp2_with (first|(go_at_fn 138;refine(HROT.out _ S1.out).mono ?_;rintro e' w2 ⟨rfl,d1,hS2,hz1,hp1,hpr1⟩));have S2:Aside (SWK enc k w0 blk off d1 w2):=hS2;have HP1:=Lib.hid (And.intro hp1 hpr1);clear hS2 hp1 hpr1 S1 HROT;go_wp2_with fail;go_meet
     case rel=>exact⟨d1,hz1,S2,HP1⟩
    |false=>
     have hn:¬(s<m∧m<e):=fun hh=>(by have h:=HRO.out;rw[decide_eq_true hh.1,decide_eq_true hh.2]at h;cases h);have HP1:Hid (PermIn a b d d∧Prt (ltOf cf) tag a s mid e b d):=⟨permIn_refl d a b,prt_none HO.out HR.out HCUT.out HSE.out hn⟩;clear HCUT HIH hn;go_wp2_with fail;go_meet
     case rel=>exact⟨d,rfl,S1,HP1⟩
   case rest=>
   obtain⟨d1,hz1,S2,HP1⟩:=hcut;clear S1 HR HCUT;obtain⟨wo,hwo⟩:∃wo,wo=wc:=⟨_,rfl⟩;subst hwo;obtain⟨rb,hrb⟩:∃ro:Bool,ro=(decide (a<s) && decide (s<mid)):=⟨_,rfl⟩;have HRB:=Lib.hid hrb;clear hrb;go_upto_region 41 with(fail)
   go_cut [199] (fun vb wx=>vb= .bool rb∧wx=wo)
   case first=>
    as_aux_lemma=>
    cases hg1:decide (a<s)with
    |true=>
     cases hg2:decide (s<mid)with
     |true=>
      have hro2:rb=true:=(by rw[HRB.out,hg1,hg2];rfl);go_wp2_with fail;go_meet
      case rel=>exact⟨by rw[hro2],rfl⟩
     |false=>
      have hro2:rb=false:=(by rw[HRB.out,hg1,hg2];rfl);go_wp2_with fail;go_meet
      case rel=>exact⟨by rw[hro2],rfl⟩
    |false=>
     have hro2:rb=false:=(by rw[HRB.out,hg1];rfl);go_wp2_with fail;go_meet
     case rel=>exact⟨by rw[hro2],rfl⟩
   case rest=>
   obtain⟨rfl,hwc⟩:=hcut;subst hwc
   go_upto_if 199 with(fail)
   go_cut [] (fun wx=>∃d2:Array α,d2.size=d.size∧Aside (SWK enc k w0 blk off d2 wx)∧Hid (PermIn a mid d1 d2∧SortedIn (Tl (ltOf cf) tag) a mid d2))
   case first=>
    as_aux_lemma=>
    cases rb with
    |true=>
     have hr1:a<s:=(by have h:=HRB.out;simp only[Bool.true_eq,Bool.and_eq_true,decide_eq_true_eq]at h;exact h.1);have hr2:s<mid:=(by have h:=HRB.out;simp only[Bool.true_eq,Bool.and_eq_true,decide_eq_true_eq]at h;exact h.2);have HROT:=Lib.hid (HIH.out a s mid d1 wc (by omega) hr1 hr2 (by omega) hz1 HP1.out.2.l S2.out);clear HIH hr1 hr2;go_wp2_with (first|(go_at_fn 100;refine HROT.out.mono ?_;rintro e' w2 ⟨rfl,d2,hS2,hp2,hs2⟩));have S3:Aside (SWK enc k w0 blk off d2 w2):=hS2;have HP2:=Lib.hid (And.intro hp2 hs2);have hz2:d2.size=d.size:=(by rw[hp2.1,hz1]);clear hS2 hp2 hs2 S2 HROT;go_wp2_with fail;go_meet
     case rel=>exact⟨d2,hz2,S3,HP2⟩
    |false=>
     have hn:¬(a<s∧s<mid):=fun hh=>(by have h:=HRB.out;rw[decide_eq_true hh.1,decide_eq_true hh.2]at h;cases h);have HP2:Hid (PermIn a mid d1 d1∧SortedIn (Tl (ltOf cf) tag) a mid d1):=⟨permIn_refl d1 a mid,Z4d HP1.out.2.l hn c1 c5⟩;clear HIH hn;go_wp2_with fail;go_meet
     case rel=>exact⟨d1,hz1,S2,HP2⟩
   case rest=>
   obtain⟨d2,hz2,S3,HP2⟩:=hcut;clear S2;have HRR:Hid (Runs (ltOf cf) tag mid e b d2):=Zbz HP1.out.2.r (fun x hx=>HP2.out.1.2.1 x (.inr hx)) c6;have HFIN:Hid (∀d3,PermIn mid b d2 d3→SortedIn (Tl (ltOf cf) tag) mid b d3→PermIn a b d d3∧SortedIn (Tl (ltOf cf) tag) a b d3):=fun d3 p3 s3=>(by have h:=Z7f (by omega) (by omega) (by omega) HP1.out.2.x HP2.out.1 HP2.out.2 p3 s3;exact⟨permIn_trans _ _ _ _ _ HP1.out.1 h.1,h.2⟩);clear HP1 HP2;obtain⟨re,hre⟩:∃ro:Bool,ro=(decide (mid<e) && decide (e<b)):=⟨_,rfl⟩;have HRE:=Lib.hid hre;clear hre HRO;go_upto_region 43 with(fail)
   go_cut [213] (fun vb wx=>vb= .bool re∧wx=wc)
   case first=>
    as_aux_lemma=>
    cases hg1:decide (mid<e)with
    |true=>
     cases hg2:decide (e<b)with
     |true=>
      have hro2:re=true:=(by rw[HRE.out,hg1,hg2];rfl);go_wp2_with fail;go_meet
      case rel=>exact⟨by rw[hro2],rfl⟩
     |false=>
      have hro2:re=false:=(by rw[HRE.out,hg1,hg2];rfl);go_wp2_with fail;go_meet
      case rel=>exact⟨by rw[hro2],rfl⟩
    |false=>
     have hro2:re=false:=(by rw[HRE.out,hg1];rfl);go_wp2_with fail;go_meet
     case rel=>exact⟨by rw[hro2],rfl⟩
   case rest=>
   obtain⟨rfl,hwc⟩:=hcut;subst hwc;cases re with
   |true=>
    have hr1:mid<e:=(by have h:=HRE.out;simp only[Bool.true_eq,Bool.and_eq_true,decide_eq_true_eq]at h;exact h.1);have hr2:e<b:=(by have h:=HRE.out;simp only[Bool.true_eq,Bool.and_eq_true,decide_eq_true_eq]at h;exact h.2);have HRO:=Lib.hid (HIH.out mid e b d2 wc (by omega) hr1 hr2 (by omega) hz2 HRR.out S3.out);clear HIH HRR hr1 hr2;go_wp2_with (first|(go_at_fn 100;refine HRO.out.mono ?_;rintro e' w2 ⟨rfl,d3,hS2,hp2,hs2⟩));have HF2:=Lib.hid (HFIN.out d3 hp2 hs2);have S4:Aside (SWK enc k w0 blk off d3 w2):=hS2;clear hS2 hp2 hs2 S3 HRO HFIN
    go_wp2
    go_end0
    exact⟨rfl,d3,S4.out,HF2.out⟩
   |false=>
    have hn:¬(mid<e∧e<b):=fun hh=>(by have h:=HRE.out;rw[decide_eq_true hh.1,decide_eq_true hh.2]at h;cases h);have HF2:=Lib.hid (HFIN.out d2 (permIn_refl d2 mid b) (Z4d HRR.out hn c6 c4));clear HIH HFIN HRR hn
    go_wp2
    go_end0
    exact⟨rfl,d2,S3.out,HF2.out⟩
theorem StbCl.sym {k:Nat}(L:StbCl P k)(cf:α→α→Int)(tag:α→Nat)(hO:SWO (ltOf cf))(enc:α→List Value)(g:Nat)(cb:Array Value)(blk off cap:Nat)(d0:Array α)(w0:World)(eg:∀args w,(callFunc g args).run P w= .ok (.enter g args) w)(hcmp:CmpLays P g cb enc k cf blk off d0.size w0)(R:RowK enc k w0 blk off d0):
  ∀(N a m b:Nat) (d:Array α) (w:World),b - a≤N→d0.size=d.size→SWK enc k w0 blk off d w→Runs (ltOf cf) tag a m b d→a<m→m<b→b≤d.size→d.size<4611686018427387904→Calls P 100 #[.slice (some ⟨blk,off,none⟩) d.size cap,.int .i64 (a:Int),.int .i64 (m:Int),.int .i64 (b:Int),.func (.func g) #[] cb] w (fun e w'=>e= .returned (.tuple #[])∧∃dd,SWK enc k w0 blk off dd w'∧PermIn a b d dd∧SortedIn (Tl (ltOf cf) tag) a b dd)
 |0,a,m,b,_,_,hN,_,_,_,h1,h2,_,_=>absurd hN (by omega)
 |N+1,a,m,b,d,w,hN,hs,S,HRU,h1,h2,hb,hsz=>by
  by_cases h3:m=a+1
  · exact L.sym_l cf tag hO enc g cb blk off cap a m b d0 d w0 w eg hcmp R hs S HRU h1 h2 h3 hb hsz
  ·
   by_cases h4:b=m+1
   · exact L.sym_r cf tag hO enc g cb blk off cap a m b d0 d w0 w eg hcmp R hs S HRU h1 h2 ⟨h3,h4⟩ hb hsz
   · refine L.sym_g cf tag hO enc g cb blk off cap a m b d0 d w0 w eg hcmp R hs S HRU h1 h2 h3 h4 hb hsz fun a' m' b' d' W q1 q2 q3 q4 q5 q6 q7=> ?_;have:=L.sym cf tag hO enc g cb blk off cap d0 w0 eg hcmp R N a' m' b' d' W (by omega) (by omega) q7 q6 q2 q3 (by omega) (by omega);rw[q5]at this;exact this
variable {P:Program}{α:Type}[Inhabited α]
theorem StbCl.stable {k:Nat}(L:StbCl P k)(cf:α→α→Int)(tag:α→Nat)(hO:SWO (ltOf cf))(enc:α→List Value)(g:Nat)(cb:Array Value)(blk off cap:Nat)(d0 d:Array α)(w0 w:World)(n:Nat)(hn:d.size=n)(eg:∀args w,(callFunc g args).run P w= .ok (.enter g args) w)(hcmp:CmpLays P g cb enc k cf blk off d0.size w0)(R:RowK enc k w0 blk off d0)(hs:d0.size=n)(S:SWK enc k w0 blk off d w)(hT:Z8a tag 0 n d)(hsz:n<1000000000)
  (hI:∀(a b:Nat) (dk:Array α) (W:World),a≤b→b≤n→dk.size=n→SWK enc k w0 blk off dk W→Calls P 99 #[.slice (some ⟨blk,off,none⟩) n cap,.int .i64 (a:Int),.int .i64 (b:Int),.func (.func g) #[] cb] W fun e w'=>e= .returned (.tuple #[])∧SWK enc k w0 blk off (insertionSort (ltOf cf) dk a b) w'):
  Calls P 60 #[.slice (some ⟨blk,off,none⟩) n cap,.int .i64 (n:Int),.func (.func g) #[] cb] w fun e w'=>e= .returned (.tuple #[])∧∃d':Array α,SWK enc k w0 blk off d' w'∧PermIn 0 n d d'∧SortedIn (Tl (ltOf cf) tag) 0 n d':=by
 have mixed:=L.mixed;have t0:=L.t0;have a0:=L.a0;have z0:=L.z0;have v0:=L.v0;have t3:=L.t3;have a3:=L.a3;have z3:=L.z3;have v3:=L.v3;have t4:=L.t4;have a4:=L.a4;have z4:=L.z4;have v4:=L.v4;have t22:=L.t22;have a22:=L.a22;have z22:=L.z22;have v22:=L.v22;have t25:=L.t25;have a25:=L.a25;have z25:=L.z25;have v25:=L.v25;have t39:=L.t39;have aE:=L.aE;have zE:=L.zE;have FG:=L.ft;have ei:=L.ei;have ey:=L.ey;have HI:Hid (∀(a b:Nat) (dk:Array α) (W:World),a≤b→b≤n→dk.size=n→SWK enc k w0 blk off dk W→Z8a tag a b dk→Calls P 99 #[.slice (some ⟨blk,off,none⟩) n cap,.int .i64 (a:Int),.int .i64 (b:Int),.func (.func g) #[] cb] W fun e w'=>e= .returned (.tuple #[])∧∃d':Array α,SWK enc k w0 blk off d' w'∧PermIn a b dk d'∧SortedIn (Tl (ltOf cf) tag) a b d'):=fun a b dk W h1 h2 h3 h4 h5=>by refine(hI a b dk W h1 h2 h3 h4).mono ?_;rintro e w' ⟨rfl,hS⟩;have:=Zbv hO h1 (by omega) h5;exact⟨rfl,_,hS,this.1,this.2⟩
 have HSY:Hid (∀(a m b:Nat) (dk:Array α) (W:World),dk.size=n→SWK enc k w0 blk off dk W→Runs (ltOf cf) tag a m b dk→a<m→m<b→b≤n→Calls P 100 #[.slice (some ⟨blk,off,none⟩) n cap,.int .i64 (a:Int),.int .i64 (m:Int),.int .i64 (b:Int),.func (.func g) #[] cb] W fun e w'=>e= .returned (.tuple #[])∧∃d':Array α,SWK enc k w0 blk off d' w'∧PermIn a b dk d'∧SortedIn (Tl (ltOf cf) tag) a b d'):=fun a m b dk W h1 h2 h3 h4 h5 h6=>by have:=L.sym cf tag hO enc g cb blk off cap d0 w0 eg hcmp R (b - a) a m b dk W (Nat.le_refl _) (by omega) h2 h3 h4 h5 (by omega) (by omega);rw[h1]at this;exact this
 have S0:Aside (SWK enc k w0 blk off d w):=S;have HD0:Hid (d.size=n∧Z8a tag 0 n d):=⟨hn,hT⟩;clear S hI hT hcmp hn hs;go_enter FG,Tryz.ntmps60;go_wp2_with fail
 go_loopg [7,8] n (fun kx s1 s2 wr=>∃(a b:Nat) (dk:Array α),s1= .int .i64 (a:Int)∧s2= .int .i64 (b:Int)∧b=a+20∧a≤n∧n - a≤kx∧dk.size=n∧Aside (SWK enc k w0 blk off dk wr)∧Hid (PermIn 0 n d dk∧Ins (ltOf cf) tag n 20 a dk))
 case atStart=>exact⟨0,20,d,rfl,rfl,rfl,Nat.zero_le _,Nat.le_refl _,HD0.out.1,S0,permIn_refl d 0 n,Ins.start HD0.out.2⟩
 case round=>
  clear S0;obtain⟨a,b,dk,rfl,rfl,hba,han,hkx,hds,S1,HP⟩:=hrel;by_cases hlt:b≤n
  ·
   have hd:decide (b≤n)=true:=(by simpa using hlt);obtain⟨c,hc⟩:∃c,c=b+20:=⟨_,rfl⟩;have rc:IntKind.i64.wrap ((b:Int)+20)=(c:Int):=(by rw[IntKind.wrap_i64];omega);have HC:=Lib.hid (HI.out a b dk wr (by omega) hlt hds S1.out (HP.out.2.tagUp hlt));have HBA:=Lib.hid hba;have HCE:=Lib.hid hc;clear hc hba;go_wp2_with (first|(go_at_fn 99;refine HC.out.mono ?_;rintro e' w2 ⟨rfl,d2,hS2,hp2,hs2⟩));have S2:Aside (SWK enc k w0 blk off d2 w2):=hS2;have hz2:d2.size=n:=(by rw[hp2.1];exact hds);have HP2:Hid (PermIn 0 n d d2∧Ins (ltOf cf) tag n 20 b d2):=⟨permIn_trans _ _ _ _ _ HP.out.1 (permIn_mono _ _ _ _ _ _ (Nat.zero_le _) hlt (by omega) hp2),HP.out.2.step (by decide) (by omega) hlt HBA.out hp2 hs2⟩;clear hS2 hp2 hs2 S1 HC HP
   go_wp2
   have hba:=HBA.out;have hc:=HCE.out
   go_roundg (n - b)
   case measure=>omega
   case rel=>exact⟨b,c,d2,rfl,by go_num,hc,hlt,Nat.le_refl _,hz2,S2,HP2⟩
  ·
   have hd:decide (b≤n)=false:=(by simpa using hlt);have HC:=Lib.hid (HI.out a n dk wr han (Nat.le_refl _) hds S1.out (HP.out.2.tagUp (Nat.le_refl _)));have HNA:Hid (n<a+20):=(by show _<_;omega);have HAN:=Lib.hid han;clear hba hkx han hlt;go_wp2_with (first|(go_at_fn 99;refine HC.out.mono ?_;rintro e' w2 ⟨rfl,d2,hS2,hp2,hs2⟩));have S2:Aside (SWK enc k w0 blk off d2 w2):=hS2;have hz2:d2.size=n:=(by rw[hp2.1];exact hds);have HP2:Hid (PermIn 0 n d d2∧Blks (ltOf cf) tag n 20 d2):=⟨permIn_trans _ _ _ _ _ HP.out.1 (permIn_mono _ _ _ _ _ _ (Nat.zero_le _) (Nat.le_refl _) (by omega) hp2),HP.out.2.done (by decide) (by omega) HAN.out HNA.out hp2 hs2⟩;clear hS2 hp2 hs2 S1 HC HP HNA HAN hd hds HI;go_wp2_with fail
   go_loopg [6,7,8,9] n (fun kx s1 s2 s3 s4 wr=>∃(bs:Nat) (dk:Array α),s1= .int .i64 (bs:Int)∧0<bs∧n - bs≤kx∧dk.size=n∧Aside (SWK enc k w0 blk off dk wr)∧Hid (PermIn 0 n d dk∧Blks (ltOf cf) tag n bs dk))
   case atStart=>exact⟨20,d2,rfl,by decide,by omega,hz2,S2,HP2⟩
   case round=>
    clear S2 HP2 hz2;obtain⟨bs,dk1,rfl,hb0,hkx1,hds1,S3,HP3⟩:=hrel;obtain⟨wo,hwo⟩:∃wo,wo=wr:=⟨_,rfl⟩;subst hwo;by_cases hlt:bs<n
    ·
     have hd:decide (bs<n)=true:=(by simpa using hlt);obtain⟨t,ht⟩:∃t,t=2*bs:=⟨_,rfl⟩;have rt:IntKind.i64.wrap (2*(bs:Int))=(t:Int):=(by rw[IntKind.wrap_i64];omega);have rt2:IntKind.i64.wrap ((bs:Int)*2)=(t:Int):=(by rw[IntKind.wrap_i64];omega);have HTE:=Lib.hid ht;have HH:Hid (PermIn 0 n d dk1∧Half (ltOf cf) tag n bs 0 dk1):=⟨HP3.out.1,Half.start hb0 HP3.out.2⟩;have ht2:t≤2000000000:=(by omega);clear HP3 ht;go_wp2_with fail
     go_loopg [7,8] n (fun kx s1 s2 wr=>∃(a b:Nat) (dk:Array α),s1= .int .i64 (a:Int)∧s2= .int .i64 (b:Int)∧b=a+t∧a≤n∧n - a≤kx∧dk.size=n∧Aside (SWK enc k w0 blk off dk wr)∧Hid (PermIn 0 n d dk∧Half (ltOf cf) tag n bs a dk))
     case atStart=>exact⟨0,t,dk1,rfl,rfl,by omega,Nat.zero_le _,by omega,hds1,S3,HH⟩
     case round=>
      clear S3 HH hds1;obtain⟨a,b,dk,rfl,rfl,hba,han,hkx2,hds,S1,HP⟩:=hrel;obtain⟨m,hm⟩:∃m,m=a+bs:=⟨_,rfl⟩;have rm:IntKind.i64.wrap ((a:Int)+(bs:Int))=(m:Int):=(by rw[IntKind.wrap_i64];omega);by_cases hltb:b≤n
      ·
       have hdb:decide (b≤n)=true:=(by simpa using hltb);obtain⟨c,hc⟩:∃c,c=b+t:=⟨_,rfl⟩;have rc:IntKind.i64.wrap ((b:Int)+(t:Int))=(c:Int):=(by rw[IntKind.wrap_i64];omega);have HC:Hid (Calls P 100 #[.slice (some ⟨blk,off,none⟩) n cap,.int .i64 (a:Int),.int .i64 (m:Int),.int .i64 (b:Int),.func (.func g) #[] cb] wr fun e w'=>e= .returned (.tuple #[])∧∃d':Array α,SWK enc k w0 blk off d' w'∧PermIn a b dk d'∧SortedIn (Tl (ltOf cf) tag) a b d'):=(by have h2:=HTE.out;refine HSY.out a m b dk wr hds S1.out ?_ (by omega) (by omega) hltb;have:=HP.out.2.runs hb0 (b:=b) (by omega) hltb (by omega) (.inr (by omega));rw[←hm]at this;exact this);have HBA:=Lib.hid hba;have HCE:=Lib.hid hc;clear hc hba hm;go_wp2_with (first|(go_at_fn 100;refine HC.out.mono ?_;rintro e' w2 ⟨rfl,d2,hS2,hp2,hs2⟩));have S2:Aside (SWK enc k w0 blk off d2 w2):=hS2;have hz2:d2.size=n:=(by rw[hp2.1];exact hds);have HP2:Hid (PermIn 0 n d d2∧Half (ltOf cf) tag n bs b d2):=(by have h2:=HTE.out;have h3:=HBA.out;exact⟨permIn_trans _ _ _ _ _ HP.out.1 (permIn_mono _ _ _ _ _ _ (Nat.zero_le _) hltb (by omega) hp2),HP.out.2.step hb0 (by omega) hltb (by omega) (by omega) (.inr (by omega)) hp2 hs2 b (.inl (by omega)) (by obtain⟨k,hk⟩:=HP.out.2.k;exact⟨k+1,by rw[Nat.add_mul,Nat.one_mul,←hk];omega⟩) (by omega) (Nat.le_refl _) (fun h=>h)⟩);clear hS2 hp2 hs2 S1 HC HP
       go_wp2
       have hba:=HBA.out;have hc:=HCE.out;have h2:=HTE.out
       go_roundg (n - b)
       case measure=>omega
       case rel=>exact⟨b,c,d2,rfl,by go_num,hc,hltb,Nat.le_refl _,hz2,S2,HP2⟩
      ·
       have hdb:decide (b≤n)=false:=(by simpa using hltb);by_cases hmn:m<n
       ·
        have hdm:decide (m<n)=true:=(by simpa using hmn);have HC:Hid (Calls P 100 #[.slice (some ⟨blk,off,none⟩) n cap,.int .i64 (a:Int),.int .i64 (m:Int),.int .i64 (n:Int),.func (.func g) #[] cb] wr fun e w'=>e= .returned (.tuple #[])∧∃d':Array α,SWK enc k w0 blk off d' w'∧PermIn a n dk d'∧SortedIn (Tl (ltOf cf) tag) a n d'):=(by have h2:=HTE.out;refine HSY.out a m n dk wr hds S1.out ?_ (by omega) hmn (Nat.le_refl _);have:=HP.out.2.runs hb0 (b:=n) (by omega) (Nat.le_refl _) (by omega) (.inl rfl);rw[←hm]at this;exact this);have HBA:=Lib.hid hba;have HAN:=Lib.hid hltb;clear hba hm hltb hkx2;go_wp2_with (first|(go_at_fn 100;refine HC.out.mono ?_;rintro e' w2 ⟨rfl,d2,hS2,hp2,hs2⟩));have S2:Aside (SWK enc k w0 blk off d2 w2):=hS2;have hz2:d2.size=n:=(by rw[hp2.1];exact hds);have HP2:Hid (PermIn 0 n d d2∧Blks (ltOf cf) tag n t d2):=(by have h2:=HTE.out;have h3:=HBA.out;have h4:=HAN.out;have h5:=(HP.out.2.step hb0 han (Nat.le_refl _) (by omega) (by omega) (.inl rfl) hp2 hs2 (a+2*bs) (.inl rfl) (by obtain⟨k,hk⟩:=HP.out.2.k;exact⟨k+1,by rw[Nat.add_mul,Nat.one_mul,←hk]⟩) (Nat.le_refl _) (by omega) (fun h=>by omega)).done (by omega);rw[←h2]at h5;exact⟨permIn_trans _ _ _ _ _ HP.out.1 (permIn_mono _ _ _ _ _ _ (Nat.zero_le _) (Nat.le_refl _) (by omega) hp2),h5⟩);clear hS2 hp2 hs2 S1 HC HP
        go_wp2
        have h2:=HTE.out
        go_roundg (n - t)
        case measure=>omega
        case rel=>exact⟨t,d2,by go_num,by omega,Nat.le_refl _,hz2,S2,HP2⟩
       ·
        have hdm:decide (m<n)=false:=(by simpa using hmn);have HP2:Hid (PermIn 0 n d dk∧Blks (ltOf cf) tag n t dk):=(by have h2:=HTE.out;have h5:=HP.out.2.last hb0 (by omega);rw[←h2]at h5;exact⟨HP.out.1,h5⟩);clear hba hm hltb hkx2 HP
        go_wp2
        have h2:=HTE.out
        go_roundg (n - t)
        case measure=>omega
        case rel=>exact⟨t,dk,by go_num,by omega,Nat.le_refl _,hds,S1,HP2⟩
    ·
     have hd:decide (bs<n)=false:=by simpa using hlt
     go_wp2
     go_end0
     exact⟨rfl,dk1,S3.out,HP3.out.1,HP3.out.2.all (by omega)⟩
theorem StbCl.sortStable {k:Nat}(L:StbCl P k)(cf:α→α→Int)(tag:α→Nat)(hO:SWO (ltOf cf))(enc:α→List Value)(g:Nat)(cb:Array Value)(blk off cap:Nat)(d:Array α)(w:World)(n:Nat)(hn:d.size=n)(eg:∀args w,(callFunc g args).run P w= .ok (.enter g args) w)(hcmp:CmpLays P g cb enc k cf blk off d.size w)(R:RowK enc k w blk off d)(hT:Z8a tag 0 n d)(hsz:n<1000000000)
  (hI:∀(a b:Nat) (dk:Array α) (W:World),a≤b→b≤n→dk.size=n→SWK enc k w blk off dk W→Calls P 99 #[.slice (some ⟨blk,off,none⟩) n cap,.int .i64 (a:Int),.int .i64 (b:Int),.func (.func g) #[] cb] W fun e w'=>e= .returned (.tuple #[])∧SWK enc k w blk off (insertionSort (ltOf cf) dk a b) w'):
  Calls P 35 #[.slice (some ⟨blk,off,none⟩) n cap,.func (.func g) #[] cb] w fun e w'=>e= .returned (.tuple #[])∧∃(d':Array α) (m:Nat) (os:Array Obj),w'=sortWorldK enc k w blk off m d' os∧PermIn 0 n d d'∧SortedIn (Tl (ltOf cf) tag) 0 n d':=by
 have mixed:=L.mixed;have t0:=L.t0;have a0:=L.a0;have z0:=L.z0;have v0:=L.v0;have t3:=L.t3;have a3:=L.a3;have z3:=L.z3;have v3:=L.v3;have t4:=L.t4;have a4:=L.a4;have z4:=L.z4;have v4:=L.v4;have t22:=L.t22;have a22:=L.a22;have z22:=L.z22;have v22:=L.v22;have t25:=L.t25;have a25:=L.a25;have z25:=L.z25;have v25:=L.v25;have t39:=L.t39;have aE:=L.aE;have zE:=L.zE;have FG:=L.fo;have et:=L.et;have HST:=Lib.hid (L.stable cf tag hO enc g cb blk off cap d d w w n hn eg hcmp R hn (SWK.start R.hH) hT hsz hI);clear hI hT hcmp hn R;go_enter FG,Tryz.ntmps35;go_wp2_with (first|(go_at_fn 60;refine HST.out.mono ?_;rintro e' w2 ⟨rfl,d2,⟨m,os,rfl⟩,hp2,hs2⟩))
 go_end0
 exact⟨rfl,d2,m,os,rfl,hp2,hs2⟩
end Go.Proofs.YtcemlhbfemenpaaGreatDoor
namespace Go.Dw
open Go.RowKit Go.Sort Go.Proofs
section
variable {α:Type}[Inhabited α] {enc:α→List Value}{k:Nat}
theorem Zc0 (w:World)(g m:Nat)(d:Array α)(os:Array Obj){cur:Array Value}{e:TypeId}{fr:Nat×Nat}(hg:w.heap[g]? =some (.cells cur e fr)):
  (sortWorldK enc k w g 0 m d os).heap[g]? =some (.cells (putCells id 0 (flatK enc k d) cur) e fr):=by
 have hgs:g<w.heap.size:=(Array.getElem?_eq_some_iff.1 hg).1;unfold sortWorldK;rw[Go.Sort.heap_grow_old _ _ (by rw[putRowK,Go.Sort.size_putRow];exact hgs)];simp only[putRowK,putRow,mapBlock,Array.getElem?_modify];rw[if_pos trivial];show Option.map _ (w.heap[g]?)=_;rw[hg];rfl
theorem Zc1 (w:World)(g m:Nat)(d:Array α)(os:Array Obj){b:Nat}(hb:b<w.heap.size)(hne:b≠g):(sortWorldK enc k w g 0 m d os).heap[b]? =w.heap[b]? :=by
 unfold sortWorldK;rw[Go.Sort.heap_grow_old _ _ (by rw[putRowK,Go.Sort.size_putRow];exact hb)];simp only[putRowK,putRow,mapBlock,Array.getElem?_modify];rw[if_neg (Ne.symm hne)];rfl
theorem Ze5 (w:World)(g m:Nat)(d:Array α)(os:Array Obj):w.heap.size≤(sortWorldK enc k w g 0 m d os).heap.size:=by
 simp[sortWorldK,putRowK,Go.Sort.size_putRow]
theorem kp_sort {T T':TypeId}{w:World}{g m:Nat}{d:Array α}{os:Array Obj}{cur:Array Value}{fr:Nat×Nat}(hg:w.heap[g]? =some (.cells cur T' fr))(hne:T'≠T):KpT T w (sortWorldK enc k w g 0 m d os):=
 ⟨Ze5 _ _ _ _ _,fun b cs fr2 hb=>Zc1 _ _ _ _ _ (Array.getElem?_eq_some_iff.1 hb).1 fun e=>by
  subst e;rw[hb]at hg;injection hg with hg;injection hg with _ hg
  exact hne hg.symm⟩
theorem own_sort {w:World}{base e g n cap m:Nat}{l:List α}{d:Array α}{os:Array Obj}(hk:∀x,(enc x).length=k)(h:w.ownsRow base e k (.slice (some ⟨g,0,none⟩) n cap) n (l.flatMap enc))(hd:d.size=n):
  (sortWorldK enc k w g 0 m d os).ownsRow base e k (.slice (some ⟨g,0,none⟩) n cap) n (d.toList.flatMap enc):=by
 refine⟨by rw[Z0x enc k hk];simp[hd], ?_⟩;rcases h.2 with⟨h0,_⟩|⟨g',cap',cur,hv,hb,hg,h4,h5,h6,h7⟩
 · injection h0 with h0;cases h0
 ·
  injection hv with e1 e2 e3;injection e1 with e1;injection e1 with e1;subst e1 e3;refine .inr ⟨g,cap,_,rfl,hb,Zc0 w g m d os hg,h4,h5, ?_, ?_⟩
  · simp[putCells,h6]
  ·
   apply List.ext_getElem?;intro j;rw[List.getElem?_take];by_cases hj:j<n*k
   · rw[if_pos hj];have hjd:j<d.toList.length*k:=(by simpa [hd]using hj);have hb:=Z8d hk d.toList j hjd;simp only[Array.toArray_toList]at hb;rw[hb];have hjc:j<cur.size:=(by rw[h6];exact Nat.lt_of_lt_of_le hj (Nat.mul_le_mul_right k h4));have hjf:0≤j∧j<0+(flatK enc k d).size:=(by rw[size_flatK,hd];omega);simp only[putCells,Array.toList_mapIdx,List.getElem?_mapIdx,Array.getElem?_toList,Array.getElem?_eq_getElem hjc,Option.map_some];rw[if_pos hjf,Nat.sub_zero];rfl
   · rw[if_neg hj];exact(List.getElem?_eq_none (by rw[Z0x enc k hk];simp[hd];omega)).symm
end
end Go.Dw
