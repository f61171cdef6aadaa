/- Several texts laid into one: Several texts laid into one: slices.SortFunc's worlds in plain words: a row of the call's own behind a sort; whatever program; Worlds with new blocks alone;; Plain: each clip of a right edit is right; The contract of the reference's IsRate; The contract of slices.Equal at []api.Point, where both read alike; -/
import Derived.Shelf.SlSortCmp.WholeK
import Derived.Test.YtcemlhbfemenpaaGreatDoorCmpZ
set_option maxHeartbeats 1000000
namespace Go.Dw
open Go.RowKit Go.Sort Go.Proofs
section
variable {α:Type}[Inhabited α] {enc:α→List Value}{k:Nat}
theorem Z8d (hk:∀x,(enc x).length=k)(l:List α)(j:Nat)(hj:j<l.length*k):(l.flatMap enc)[j]? =some ((flatK enc k l.toArray)[j]!):=by
 have hk0:0<k:=by
  rcases Nat.eq_zero_or_pos k with h|h
  · subst h;simp at hj
  · exact h
 have hd:j / k<l.length:=Nat.div_lt_of_lt_mul (by rw[Nat.mul_comm];exact hj);have hm:j % k<k:=Nat.mod_lt _ hk0;have h:=flat_get enc k hk l (j / k) (j % k) hd hm;rw[Nat.div_add_mod']at h;rw[h,get_flatK _ _ _ _ (by simpa using hj)];have e1:l.toArray[j / k]! =l[j / k]:=by simp[hd]
 rw[e1];have hl:=hk l[j / k];rw[Zi (by omega)];simp[List.getElem!_eq_getElem?_getD,List.getElem?_eq_getElem (show j % k<(enc l[j / k]).length by omega)]
theorem Z7g {w:World}{base e g n cap:Nat}{l:List α}(hk:∀x,(enc x).length=k)(h:w.ownsRow base e k (.slice (some ⟨g,0,none⟩) n cap) n (l.flatMap enc))(_:l.length=n):HoldsK enc k w g 0 l.toArray:=by
 rcases h.2 with⟨h0,_⟩|⟨g',cap',cur,hv,_,hg,h4,_,h6,h7⟩
 · injection h0 with h0;cases h0
 ·
  injection hv with e1 e2 e3;injection e1 with e1;injection e1 with e1;subst e1 e3;intro j hj;rw[size_flatK]at hj;have hj':j<l.length*k:=by simpa using hj
  have hf:=Z8d hk l j hj';rw[←h7,List.getElem?_take]at hf
  split at hf
  · refine⟨?_,by simp[World.frozen?,hg]⟩;have hf2:cur[j]? =some ((flatK enc k l.toArray)[j]!):=(by simpa using hf);simp[World.cell?,hg,hf2]
  · cases hf
theorem Zbx {w:World}{B g m:Nat}{d:Array α}{os:Array Obj}(hB:B≤g)(hg:g<w.heap.size):Below B w (sortWorldK enc k w g 0 m d os):=by
 refine⟨rfl,rfl,rfl, ?_,fun j hj=> ?_⟩
 · simp[sortWorldK,putRowK,Go.Sort.size_putRow]
 ·
  unfold sortWorldK;by_cases hjs:j<w.heap.size
  · rw[heap_grow_old _ _ (by rw[putRowK,Go.Sort.size_putRow];exact hjs)];simp only[putRowK,putRow,mapBlock,Array.getElem?_modify];rw[if_neg (by omega)];rfl
  · omega
def SrtK (lt:α→α→Bool)(enc:α→List Value)(w:World)(B:Nat)(A:Option Addr)(l:List α)(w':World):Prop:=
 ∃l':List α,l'.Perm l∧l'.Pairwise (fun x y=>lt y x=false)∧Rd w' A (l'.flatMap enc)∧Below B w w'
def Grw (W W':World):Prop:=∃q os,W'=grow (W.drewN q) os
theorem Grw.refl (W:World):Grw W W:=⟨0, #[],by simp[World.drewN]⟩
theorem Grw.alloc {W W':World}(h:Grw W W')(o:Obj):Grw W (W'.alloc o):=by
 obtain⟨q,os,rfl⟩:=h;exact⟨q,os++ #[o],by rw[alloc_eq_grow,grow_grow]⟩
theorem Grw.drewN {W W':World}(h:Grw W W')(n:Nat):Grw W (W'.drewN n):=by
 obtain⟨q,os,rfl⟩:=h;exact⟨q+n,os,by simp[World.drewN,grow,Nat.add_assoc]⟩
theorem Grw.drew {W W':World}(h:Grw W W'):Grw W W'.drew:=h.drewN 1
end
end Go.Dw
namespace Go.Proofs.YtcemlhbfemenpaaGreatDoor
open Go.RowKit Go.Dw Go.Sort
theorem Grw.trans {a b c:World}(h:Grw a b)(k:Grw b c):Grw a c:=by
 obtain⟨q,os,rfl⟩:=h;obtain⟨q2,os2,rfl⟩:=k;exact⟨q+q2,os++os2,by simp[World.drewN,grow,Nat.add_assoc]⟩
theorem Grw.below {a b:World}(h:Grw a b):Below a.heap.size a b:=by
 obtain⟨q,os,rfl⟩:=h;refine⟨rfl,rfl,rfl,by simp[grow,World.drewN],fun j hj=> ?_⟩;rw[heap_grow_old _ _ (by simpa [World.drewN]using hj)];rfl
def Gr (a b:World):Prop:=Grw a b
end Go.Proofs.YtcemlhbfemenpaaGreatDoor
namespace Go.Dw
open Go.RowKit
theorem Z5c {nm:ByteArray→Bool}{mx:Int}{e:Edt}(h:Z0y nm mx e=0):∀c∈e.cs,Z3n nm e.tracks c=0:=by
 unfold Z0y at h
 split at h
 · omega
 ·
  split at h
  · omega
  ·
   intro c hc;obtain⟨k,hk,rfl⟩:=List.mem_iff_getElem.1 hc;have h2:=Z2u h k hk;unfold Za3 at h2;rw[Zg,Zi hk,Option.getD_some]at h2
   split at h2
   · rename_i h3;exact absurd h2 h3
   · rename_i h3;simpa using h3
theorem Z5d {nm:ByteArray→Bool}{tk:Int}{c:Cli}(h:Z3n nm tk c=0):Z3r c.ln c.e=0:=by
 unfold Z3n at h
 split at h
 · omega
 ·
  split at h
  · omega
  · exact h
end Go.Dw
namespace Go.Proofs.YtcemlhbfemenpaaGreatDoor
open Go.RowKit Go.Dw
theorem Z9i (n:Int)(w:World):Calls Tryz.prog 61 #[.int .i64 n] w fun e w'=>e= .returned (.bool (isRt n))∧w=w':=by
 have HR:Hid (isRt n=(decide (1≤n) && decide (n≤1000000))):=rfl;by_cases h1:1≤n
 · have e1:decide (1≤n)=true:=decide_eq_true h1;go_enter Tryz.func61,Tryz.ntmps61;go_wp2_with fail;go_ret;exact⟨by rw[HR.o,e1];rfl,rfl⟩
 · have e1:decide (1≤n)=false:=decide_eq_false h1;go_enter Tryz.func61,Tryz.ntmps61;go_wp2_with fail;go_ret;exact⟨by rw[HR.o,e1];rfl,rfl⟩
end Go.Proofs.YtcemlhbfemenpaaGreatDoor
