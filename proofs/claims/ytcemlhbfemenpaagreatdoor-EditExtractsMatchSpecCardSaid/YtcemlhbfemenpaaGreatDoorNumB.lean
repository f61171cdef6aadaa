/- Several texts laid into one: Words for slices of slices that the call itself made: whatever program; A world that lies over another one; Plain words for numbers as words and as limbs, and for texts of ratios (no function of a program); The contracts of num.Nat's trim, natOf, One, small; The contracts of num.natOf, One, small, Cmp; The contract of (num.Nat).Cmp; Rows of words under way; Strings that are equal, as Go compares them; The contracts of clock.digits and of the reference's number: whole numbers without a needless 0; The contracts of the reference's trim and compare; The contract of the reference's compare; The contract of the reference's times; The contract of the reference's small; The contract of the reference's less: a difference; A list of limbs is put behind one limb; The contract of the reference's divide; The contract of the reference's common; -/
import Derived.Deep.RegionHeld3
import Derived.Test.YtcemlhbfemenpaaGreatDoorPlnZ
import Derived.Test.YtcemlhbfemenpaaGreatDoorProg
import Derived.Laws.AppendOwnNone
import Derived.Deep.DeepCutAuto
import Derived.Deep.CutBlock
set_option maxHeartbeats 8000000
set_option maxRecDepth 100000
namespace Go.Dw
open Go.RowKit
def RdS (S:Nat→Prop)(w:World)(A:Option Addr)(vs:List Value):Prop:=
 vs= []∨∃b off,A=some ⟨b,off,none⟩∧S b∧b<w.heap.size∧∀j u,vs[j]? =some u→w.cell? ⟨b,off+j,none⟩=some u
def Same (S:Nat→Prop)(w w':World):Prop:=w.heap.size≤w'.heap.size∧∀b,S b→b<w.heap.size→w'.heap[b]? =w.heap[b]?
theorem Same.refl (S:Nat→Prop)(w:World):Same S w w:=⟨Zh _,fun _ _ _=>rfl⟩
theorem Same.trans {S:Nat→Prop}{a b c:World}(h:Same S a b)(k:Same S b c):Same S a c:=
 ⟨Nat.le_trans h.1 k.1,fun i hs hi=>(k.2 i hs (Nat.lt_of_lt_of_le hi h.1)).trans (h.2 i hs hi)⟩
theorem Same.mono {S S':Nat→Prop}{w w':World}(h:Same S w w')(hs:∀b,b<w.heap.size→S' b→S b):Same S' w w':=⟨h.1,fun b hb hl=>h.2 b (hs b hl hb) hl⟩
theorem Same.of_below {S:Nat→Prop}{w w':World}(h:Below w.heap.size w w'):Same S w w':=⟨h.size,fun b _ hb=>h.block b hb⟩
theorem Same.alloc {S:Nat→Prop}(w:World)(o:Obj):Same S w (w.alloc o):=⟨by simp,fun b _ hb=>Below.heap_alloc w o b hb⟩
theorem Same.set {S:Nat→Prop}(w:World)(p:Addr)(u:Value)(hp:¬S p.block):Same S w (w.setCell p u):=
 ⟨by simp[World.setCell],fun b hb _=>Below.heap_setCell w p u b (fun e=>hp (e▸hb))⟩
theorem Same.drewN {S:Nat→Prop}(w:World)(n:Nat):Same S w (w.drewN n):=⟨Zh _,fun _ _ _=>rfl⟩
theorem Same.drew {S:Nat→Prop}(w:World):Same S w w.drew:=⟨Zh _,fun _ _ _=>rfl⟩
theorem RdS.same {S:Nat→Prop}{w w':World}{A:Option Addr}{vs:List Value}(h:RdS S w A vs)(hs:Same S w w'):RdS S w' A vs:=by
 rcases h with h|⟨b,off,e,hb,hl,hc⟩
 · exact .inl h
 · exact .inr ⟨b,off,e,hb,Nat.lt_of_lt_of_le hl hs.1,fun j u hu=>(World.cell?_of_block (hs.2 b hb hl)).trans (hc j u hu)⟩
theorem RdS.mono {S S':Nat→Prop}{w:World}{A:Option Addr}{vs:List Value}(h:RdS S w A vs)(hs:∀b,b<w.heap.size→S b→S' b):RdS S' w A vs:=by
 rcases h with h|⟨b,off,e,hb,hl,hc⟩
 · exact .inl h
 · exact .inr ⟨b,off,e,hs b hl hb,hl,hc⟩
theorem RdS.rd {S:Nat→Prop}{w:World}{A:Option Addr}{vs:List Value}(h:RdS S w A vs):Rd w A vs:=by
 rcases h with h|⟨b,off,e,hb,hl,hc⟩
 · exact .inl h
 · exact .inr ⟨b,off,e,hl,hc⟩
theorem Rd.rds {w:World}{A:Option Addr}{vs:List Value}(h:Rd w A vs):RdS (fun b=>b<w.heap.size) w A vs:=by
 rcases h with h|⟨b,off,e,hl,hc⟩
 · exact .inl h
 · exact .inr ⟨b,off,e,hl,hl,hc⟩
theorem RdS.at_ {S:Nat→Prop}{w:World}{A:Option Addr}{vs:List Value}(h:RdS S w A vs)(hn:0<vs.length):
  ∃b off,A=some ⟨b,off,none⟩∧S b∧b<w.heap.size∧∀j u,vs[j]? =some u→w.cell? ⟨b,off+j,none⟩=some u:=by
 rcases h with rfl|h
 · simp at hn
 · exact h
def RdIs (S:Nat→Prop)(w:World)(v:Value)(xs:List Int):Prop:=∃A c,v= .slice A xs.length c∧RdS S w A (ic xs)
theorem RdIs.same {S:Nat→Prop}{w w':World}{v:Value}{xs:List Int}(h:RdIs S w v xs)(hs:Same S w w'):RdIs S w' v xs:=by
 obtain⟨A,c,e,h⟩:=h;exact⟨A,c,e,h.same hs⟩
theorem RdIs.mono {S S':Nat→Prop}{w:World}{v:Value}{xs:List Int}(h:RdIs S w v xs)(hs:∀b,b<w.heap.size→S b→S' b):RdIs S' w v xs:=by
 obtain⟨A,c,e,h⟩:=h;exact⟨A,c,e,h.mono hs⟩
def Z80 (S:Nat→Prop)(w:World)(v:Value)(xss:List (List Int)):Prop:=
 ∃A c vs,v= .slice A xss.length c∧vs.length=xss.length∧RdS S w A vs∧∀i (h1:i<vs.length) (h2:i<xss.length),RdIs S w vs[i] xss[i]
theorem Z80.same {S:Nat→Prop}{w w':World}{v:Value}{xss:List (List Int)}(h:Z80 S w v xss)(hs:Same S w w'):Z80 S w' v xss:=by
 obtain⟨A,c,vs,e,hl,h,hi⟩:=h;exact⟨A,c,vs,e,hl,h.same hs,fun i h1 h2=>(hi i h1 h2).same hs⟩
theorem Z80.mono {S S':Nat→Prop}{w:World}{v:Value}{xss:List (List Int)}(h:Z80 S w v xss)(hs:∀b,b<w.heap.size→S b→S' b):Z80 S' w v xss:=by
 obtain⟨A,c,vs,e,hl,h,hi⟩:=h;exact⟨A,c,vs,e,hl,h.mono hs,fun i h1 h2=>(hi i h1 h2).mono hs⟩
theorem Z80.at_ {S:Nat→Prop}{w:World}{v:Value}{xss:List (List Int)}(h:Z80 S w v xss){i k:Nat}(hi:i<xss.length)(hk:k<xss[i].length):
  ∃b off c b2 off2 c2,v= .slice (some ⟨b,off,none⟩) xss.length c∧w.cell? ⟨b,off+i,none⟩=some (.slice (some ⟨b2,off2,none⟩) xss[i].length c2)∧w.cell? ⟨b2,off2+k,none⟩=some (.int .i64 xss[i][k]):=by
 obtain⟨A,c,vs,rfl,hl,h,hr⟩:=h;obtain⟨b,off,rfl,_,_,hc⟩:=h.at_ (by omega);obtain⟨A2,c2,e2,h2⟩:=hr i (by omega) hi;obtain⟨b2,off2,rfl,_,_,hc2⟩:=h2.at_ (by rw[Zcm];omega);refine⟨b,off,c,b2,off2,c2,rfl, ?_,hc2 k _ (ic_at _ k hk)⟩;rw[←e2];exact hc i _ (Zi (by omega))
def Blk (w:World)(g:Nat)(t:TypeId)(cs:List Value):Prop:=w.heap[g]? =some (.cells cs.toArray t (0,0))
section
variable {w w':World}{g:Nat}{t:TypeId}{cs:List Value}
theorem Blk.lt (h:Blk w g t cs):g<w.heap.size:=by
 rcases Nat.lt_or_ge g w.heap.size with hlt|hge
 · exact hlt
 · unfold Blk at h;rw[Array.getElem?_eq_none hge]at h;cases h
theorem Blk.cell (h:Blk w g t cs)(i:Nat):w.cell? ⟨g,i,none⟩=cs[i]? :=by
 rw[cell_of_row w g i cs.toArray t (0,0) h];simp
theorem Blk.frozen (h:Blk w g t cs)(i:Nat):w.frozen? ⟨g,i,none⟩=false:=by
 unfold Blk at h;simp[World.frozen?,h]
theorem Blk.new (w:World)(t:TypeId)(cs:List Value):Blk (w.alloc (.cells cs.toArray t)) w.heap.size t cs:=heap_alloc_new w _
theorem Blk.same {S:Nat→Prop}(h:Blk w g t cs)(hs:Same S w w')(hg:S g):Blk w' g t cs:=(hs.2 g hg h.lt).trans h
theorem Blk.set_ (h:Blk w g t cs)(i:Nat)(u:Value):Blk (w.setCell ⟨g,i,none⟩ u) g t (cs.set i u):=by
 unfold Blk at h⊢;simp[World.setCell,Array.getElem?_modify,h]
theorem Blk.rds {S:Nat→Prop}(h:Blk w g t cs)(hg:S g):RdS S w (some ⟨g,0,none⟩) cs:=
 .inr ⟨g,0,rfl,hg,h.lt,fun j u hu=>by rw[Nat.zero_add,h.cell j];exact hu⟩
end
def zs (n:Nat)(z:Value):List Value:=List.replicate n z
theorem Zd6 {P:Program}(t e:TypeId)(i:TypeInfo)(z:Value)(bytes:Nat)(ht:P.underlying t=some (.slice e))(hi:P.info? e=some i)(hz:i.zero=some z)(hz1:i.size=1)(hz2:i.bytes=bytes)(hzc:z.cells= #[z])
  (n:Int) (k:Nat) (hn:n=k) (hb:bytes*k≤281474976710656) (hk:k≤9223372036854775807) (w:World):
  (Instr.makeSlice t (.int .i64 n) (.int .i64 n)).run P w= .ok (.slice (some ⟨w.heap.size,0,none⟩) k k) (w.alloc (.cells (zs k z).toArray e)):=by
 subst hn;have hbb:(i.bytes:Int)*(k:Int)≤281474976710656:=by rw[hz2];have h:((bytes*k:Nat):Int)≤281474976710656:=(by omega);rwa [Int.natCast_mul]at h
 have hr:=run_make (P:=P) w t e i z ht hi hz .i64 .i64 k k (by omega) (by omega) hbb (by omega);simp only[Int.toNat_natCast]at hr;rw[hr,hz1,hzc,Nat.mul_one];have:madeCells #[z] k=(zs k z).toArray:=by apply Array.ext';rw[toList_madeCells_one];simp[zs]
 rw[this]
def Gq (w W:World):Prop:=Below w.heap.size w W
theorem Gq.alloc {a b:World}(h:Gq a b)(o:Obj):Gq a (b.alloc o):=Below.alloc h (Below.size h) o
theorem Gq.set {a b:World}(h:Gq a b){p:Addr}(hp:a.heap.size≤p.block)(v:Value):Gq a (b.setCell p v):=Below.setCell h hp v
theorem Gq.drew {a b:World}(h:Gq a b):Gq a b.drew:=Below.drew h
theorem Gq.refl (a:World):Gq a a:=Zm _ _
theorem Gq.trans {a b c:World}(h:Gq a b)(g:Gq b c):Gq a c:=Below.trans h (Below.mono g (Below.size h))
theorem Gq.rd {a b:World}(h:Gq a b){A:Option Addr}{vs:List Value}(g:Rd a A vs):Rd b A vs:=g.below h
end Go.Dw
namespace Go.Proofs.YtcemlhbfemenpaaGreatDoor
open Go.RowKit Go.Dw
theorem Z0s {w:World}{A:Option Addr}{l:List Nat}(h:Rd w A (uc l))(h0:0<l.length):
  ∃b off,A=some ⟨b,off,none⟩∧b<w.heap.size∧∀k,k<l.length→w.cell? ⟨b,off+k,none⟩=some (.int .u32 (l.getD k 0:Nat)):=by
 obtain⟨b,off,e,hb,hc⟩:=h.at_ (by rw[Z37];exact h0);exact⟨b,off,e,hb,fun k hk=>hc k _ (Z6a l k hk)⟩
theorem Z81 {l:List Nat}{k:Nat}(hk:k<l.length)(h:l.getD k 0≠0):Z0f (l.take (k+1))=l.take (k+1):=by
 have e:l.take (k+1)=l.take k++ [l.getD k 0]:=by rw[List.take_succ_eq_append_getElem hk,Zg,Zi hk];rfl
 rw[e];exact Z6u _ _ h
theorem Zd7 {l:List Nat}{k:Nat}(hk:k<l.length)(h:l.getD k 0=0):Z0f (l.take (k+1))=Z0f (l.take k):=by
 have e:l.take (k+1)=l.take k++ [l.getD k 0]:=by rw[List.take_succ_eq_append_getElem hk,Zg,Zi hk];rfl
 rw[e,h];exact Z90 _
def Qd (w w':World):Prop:=∃n,w'=w.drewN n
theorem Qd.refl (w:World):Qd w w:=⟨0,rfl⟩
theorem Qd.below {w w':World}(h:Qd w w'):Below w.heap.size w w':=by
 obtain⟨n,rfl⟩:=h;exact below_drewN (Zm _ _) n
theorem Z0q {w:World}{A:Option Addr}{c:Nat}{l:List Nat}(h:Rd w A (uc l))(hd:Ds W32 l):Z09 w (.slice A (Z0f l).length c) (val W32 l):=by
 refine⟨A,c,Z0f l,rfl, ?_,Z6t hd,Z5k l⟩;rw[Z36 l];rcases h with h|⟨b,off,e,hb,hc⟩
 · have:l= []:=(by simpa [uc]using h);subst this;exact .inl rfl
 · refine .inr ⟨b,off,e,hb,fun j u hu=>hc j u ?_⟩;rw[←hu];have hj:=(List.getElem?_eq_some_iff.1 hu).1;simp only[uc,List.length_map,List.length_take]at hj;simp only[uc,List.getElem?_map];rw[List.getElem?_take_of_lt (by omega)]
def smN (n:Nat):Nat:=if n<18446744073709551616 then n else 0
def smB (n:Nat):Bool:=decide (n<18446744073709551616)
theorem Z3u {n:Nat}(h:n<18446744073709551616):smN n=n∧smB n=true:=⟨by unfold smN;rw[if_pos h],by unfold smB;exact decide_eq_true h⟩
theorem Z98 {n:Nat}(h:18446744073709551616≤n):smN n=0∧smB n=false:=⟨by unfold smN;rw[if_neg (by omega)],by unfold smB;exact decide_eq_false (by omega)⟩
theorem or_nat (a b:Nat)(ha:a<4294967296)(hb:b<4294967296):bits .or .u64 (a:Int) ((b:Int)*4294967296)=((a+b*4294967296:Nat):Int):=by
 unfold bits;show IntKind.u64.wrap (((BitVec.ofInt 64 (a:Int)|||BitVec.ofInt 64 ((b:Int)*4294967296)).toNat:Nat):Int)=_;have e:((b:Int)*4294967296)=((b*4294967296:Nat):Int):=by omega
 rw[e,BitVec.ofInt_natCast,BitVec.ofInt_natCast,BitVec.toNat_or,BitVec.toNat_ofNat,BitVec.toNat_ofNat,Nat.mod_eq_of_lt (by omega),Nat.mod_eq_of_lt (by omega)];have h1:a|||b*4294967296=a+b*4294967296:=by rw[Nat.or_comm,Nat.mul_comm b,Nat.add_comm];exact(Nat.two_pow_add_eq_or_of_lt (i:=32) (by simpa using ha) b).symm
 rw[h1];exact IntWalk.u64_in _ (by omega)
theorem Z99 {l:List Nat}(h:Nm W32 l):(l.length=0→val W32 l=0)∧(l.length=1→val W32 l=l.getD 0 0)∧(l.length=2→val W32 l=l.getD 0 0+l.getD 1 0*4294967296)∧(2<l.length→18446744073709551616≤val W32 l):=by
 refine⟨fun e=> ?_,fun e=> ?_,fun e=> ?_,fun e=> ?_⟩
 · rw[Zk e];rfl
 ·
  match l,e with
  | [a],_=>show a+W32*0=a;omega
 ·
  match l,e with
  | [a,b],_=>show a+4294967296*(b+4294967296*0)=a+b*4294967296;omega
 · have h1:=Z3q h (by omega);have h2:W32 ^ 2≤W32 ^ (l.length - 1):=Nat.pow_le_pow_right (by decide) (by omega);have h3:W32 ^ 2=18446744073709551616:=(by decide);omega
def Z27 (a b:Nat):Int:=if a<b then -1 else if a=b then 0 else 1
theorem Z1u {a b:Nat}(h:a<b):Z27 a b= -1:=by unfold Z27;rw[if_pos h]
theorem Z28 {a b:Nat}(h:b<a):Z27 a b=1:=by unfold Z27;rw[if_neg (by omega),if_neg (by omega)]
theorem Z2v (a:Nat):Z27 a a=0:=by unfold Z27;rw[if_neg (by omega),if_pos rfl]
def Z45 (a b:Nat)(w:World)(e:Ending)(w':World):Prop:=e= .returned (.int .i64 (Z27 a b))∧Qd w w'
theorem Qd.more {w w':World}(h:Qd w w')(n:Nat):Qd w (w'.drewN n):=by
 obtain⟨m,rfl⟩:=h;exact⟨m+n,by simp[World.drewN,Nat.add_assoc]⟩
theorem Blk.rd {w:World}{g:Nat}{t:TypeId}{cs:List Value}(h:Blk w g t cs):Rd w (some ⟨g,0,none⟩) cs:=(h.rds (S:=fun _=>True) trivial).rd
theorem Z9a (n:Nat):((n:Int) % 4294967296)=((n % W32:Nat):Int):=by show _=((n % 4294967296:Nat):Int);omega
theorem Z9b (n:Nat):((n:Int) / 4294967296)=((n / W32:Nat):Int):=by show _=((n / 4294967296:Nat):Int);omega
theorem Zd8 (s:Int)(h1: -4294967297≤s)(h2:s<4294967296):∃d o:Nat,s % 4294967296=(d:Int)∧s / 4294967296= -(o:Int)∧d<W32∧(s=(d:Int) - 4294967296*o)∧o≤2:=by
 refine⟨(s % 4294967296).toNat,(-(s / 4294967296)).toNat, ?_, ?_, ?_, ?_, ?_⟩
 · omega
 · omega
 · show _<4294967296;omega
 · omega
 · omega
theorem getD_set_ne {l:List Nat}{i k d:Nat}(h:i≠k):(l.set i d).getD k 0=l.getD k 0:=by
 rw[Zg,Zg,List.getElem?_set_ne h]
theorem s0_of {s:ByteArray}(h:s.size=0):s=⟨#[]⟩:=by
 apply Z1w;have:s.data.toList.length=0:=by rw[Zo];exact h
 rw[Zk this]
theorem s1_of {s:ByteArray}(h:s.size=1)(h0:∀h:0<s.size,s[0]=48):s=⟨#[48]⟩:=by
 apply Z1w;have h1:s.data.toList.length=1:=by rw[Zo];exact h
 obtain⟨x,hx⟩:=List.length_eq_one_iff.1 h1;have h2:=h0 (by omega);have h3:s.data.toList[0]'(by omega)=48:=by rw[Array.getElem_toList];exact h2
 rw[hx];simp only[hx,List.getElem_cons_zero]at h3;rw[h3]
theorem head_of {s:ByteArray}(h:0<s.size):s.data.toList.head? =some s[0]:=by
 rw[List.head?_eq_getElem?,Zi (by rw[Zo];exact h),Array.getElem_toList];rfl
theorem Zd9 (b:UInt8):b=48↔b.toNat=48:=by
 constructor
 · intro h;rw[h];rfl
 · intro h;exact UInt8.toNat_inj.1 (by rw[h];rfl)
theorem Z2w {s d:ByteArray}(h:Z8x s d=false):Z2h s d=3:=by unfold Z2h;rw[if_pos h]
theorem Z59 {s d:ByteArray}(h:Z8x s d=true)(k:2000<(boT s).length∨2000<d.data.toList.length):Z2h s d=2:=by
 unfold Z2h;rw[if_neg (by rw[h];decide),if_pos k]
theorem Za6 {s d:ByteArray}(h:Z8x s d=true)(k:¬(2000<(boT s).length∨2000<d.data.toList.length)):Z2h s d=if Nat.gcd (Z0e (boT s)) (Z0e d.data.toList)=1 then 0 else 3:=by
 unfold Z2h;rw[if_neg (by rw[h];decide),if_neg k]
theorem Z2d {l:List UInt8}(h:l.all isD=true){n:Nat}(hn:l.length≤n):Lim n (Z0e l):=by
 have h1:Lim l.length (Z0e l):=Nat.lt_of_lt_of_le (Z4p _ l rfl h) (Nat.pow_le_pow_left (by decide) _);exact h1.mono hn
theorem Z0w (A:Option Addr)(c:Nat)(l:List Nat)(w:World)(h:Rd w A (uc l))(hl:l.length≤1099511627776)(hc:l.length≤c)(hc2:c≤1099511627776):
  Calls Tryz.prog 154 #[.slice A l.length c] w fun e w'=>e= .returned (.slice A (Z0f l).length c)∧w=w':=by
 have HR:=Za h;clear h;go_enter Tryz.func154,Tryz.ntmps154
 go_wp2
 go_loop [0] (fun v=>∃k:Nat,k≤l.length∧v= .slice A k c∧Hid (Z0f (l.take k)=Z0f l)) (fun v=>match v with| .slice _ n _=>n|_=>0)
 case atStart=>exact⟨l.length,Zh _,rfl,by show _=_;rw[List.take_length]⟩
 case round=>
  obtain⟨k,hk,rfl,HT⟩:=hrel;cases k with
  |zero=>
   have HE:Hid ((Z0f l).length=0):=by show _=_;rw[←HT.o];simp[Z0f]
   go_wp2
   go_ret;exact⟨by rw[HE.o];rfl,rfl⟩
  |succ k=>
   obtain⟨b,off,rfl,hb,hcs⟩:=Z0s HR.o (by omega);have d0:=hcs k (by omega);have H1:=Za (fun h=>Z81 (l:=l) (k:=k) (by omega) h);have H2:=Za (fun h=>Zd7 (l:=l) (k:=k) (by omega) h);clear hcs;generalize l.getD k 0=d at*;by_cases hd:d=0
   ·
    subst hd
    go_wp2
    go_round
    case rel=>exact⟨k,by omega,by simp,by show _=_;rw[←H2.o rfl];exact HT.o⟩
    case measure=>simp
   ·
    have hd0:((d:Int)==0)=false:=(by simpa using hd);have HE:Hid ((Z0f l).length=k+1):=by show _=_;rw[←HT.o,H1.o hd,List.length_take];omega
    go_wp2
    go_ret;exact⟨by rw[HE.o];rfl,rfl⟩
theorem Z3a (n:Nat)(w:World)(hn:n<18446744073709551616):
  Calls Tryz.prog 176 #[.int .u64 (n:Int)] w fun e w'=>∃v,e= .returned v∧Z09 w' v n∧Below w.heap.size w w':=by
 have hD:Ds W32 [n % 4294967296,n / 4294967296]:=by intro d hd;simp at hd;have:W32=4294967296:=rfl;rcases hd with rfl|rfl<;>omega
 have HV:Hid (val W32 [n % 4294967296,n / 4294967296]=n):=by show n % 4294967296+4294967296*(n / 4294967296+4294967296*0)=n;omega
 have HD:=Za hD;have HW:Hid (Rd (w.alloc (.cells #[.int .u32 ((n:Int) % 4294967296),.int .u32 ((n:Int) / 4294967296)] 177)) (some ⟨w.heap.size,0,none⟩) (uc [n % 4294967296,n / 4294967296])):=by show Rd _ _ _;have:=(Blk.new w 177 (uc [n % 4294967296,n / 4294967296])).rds (S:=fun _=>True) trivial;have:=this.rd;simpa [uc]using this
 clear hD;go_enter Tryz.func176,Tryz.ntmps176;go_wp2_with (go_at_call 154;refine(Z0w _ 2 [n % 4294967296,n / 4294967296] _ HW.o (by simp) (by simp) (by omega)).mono ?_;rintro e w' ⟨rfl,rfl⟩);go_ret;refine⟨_,rfl, ?_,(Zm _ _).alloc (Zh _) _⟩;have:=Z0q (c:=2) HW.o HD.o;rw[HV.o]at this;exact this
theorem one_any (w:World):
  Calls Tryz.prog 149 #[] w fun e w'=>∃v,e= .returned v∧Z09 w' v 1∧Below w.heap.size w w':=by
 go_enter Tryz.func149,Tryz.ntmps149
 go_wp2
 go_ret;refine⟨_,rfl,⟨_,_,[1],rfl, ?_,⟨by intro d hd;simp at hd;subst hd;decide,by simp⟩,rfl⟩,(Zm _ _).alloc (Zh _) _⟩;have:=((Blk.new w 177 (uc [1])).rds (S:=fun _=>True) trivial).rd;simpa [uc]using this
theorem Z0z (v:Value)(n:Nat)(w:World)(h:Z09 w v n):
  Calls Tryz.prog 152 #[v] w fun e w'=>e= .returned (.tuple #[.int .u64 (smN n:Nat),.bool (smB n)])∧Qd w w':=by
 obtain⟨A,c,l,rfl,hr,hn,rfl⟩:=h;have HR:=Za hr;obtain⟨n0,n1,n2,n3⟩:=Z99 hn;have HN0:=Za n0;have HN1:=Za n1;have HN2:=Za n2;have HN3:=Za n3;have g0:=hn.1.getD (by decide) 0;have g1:=hn.1.getD (by decide) 1;have hw:W32=4294967296:=rfl;rw[hw]at g0 g1;clear hr hn hw n0 n1 n2 n3;generalize hV:val W32 l=V at*;clear hV;by_cases c0:l.length=0
 ·
  have e:l= []:=Zk c0;subst e;have e0:=HN0.o rfl;subst e0;clear HN0 HN1 HN2 HN3 HR g0 g1 c0;go_enter Tryz.func152,Tryz.ntmps152
  go_wp2
  go_ret2
  exact⟨rfl,Qd.refl _⟩
 ·
  obtain⟨b,off,rfl,hb,hcs⟩:=Z0s HR.o (by omega);have d0:=hcs 0 (by omega);have d1:=fun h=>hcs 1 h;clear hcs HR HN0;simp only[Nat.add_zero]at d0;generalize l.getD 0 0=x0 at*;generalize l.getD 1 0=x1 at*;generalize hL:l.length=L at*;clear hL;by_cases c1:L=1
  ·
   subst c1;have e0:=HN1.o rfl;subst e0;have HS:Hid (smN V=V∧smB V=true):=Z3u (by omega);clear HN1 HN2 HN3 d1 c0;go_enter Tryz.func152,Tryz.ntmps152
   go_wp2
   go_ret2
   exact⟨by rw[HS.o.1,HS.o.2];rfl,Qd.refl _⟩
  ·
   by_cases c2:L=2
   ·
    subst c2;have e0:=HN2.o rfl;subst e0;have d2:=d1 (by omega);have HS:Hid (smN (x0+x1*4294967296)=x0+x1*4294967296∧smB (x0+x1*4294967296)=true):=Z3u (by omega);have HO:=Za (or_nat x0 x1 g0 g1);clear HN1 HN2 HN3 d1 c0 c1;go_enter Tryz.func152,Tryz.ntmps152
    go_wp2
    go_quiet (fail)
    go_wp2
    go_ret2
    exact⟨by rw[HS.o.1,HS.o.2,←HO.o];rfl,_,rfl⟩
   ·
    have e0:=HN3.o (by omega);have HS:Hid (smN V=0∧smB V=false):=Z98 (by omega);clear HN1 HN2 HN3 d1 e0;have t0:((L:Int)==0)=false:=(by simp;omega);have t1:((L:Int)==1)=false:=(by simp;omega);have t2:((L:Int)==2)=false:=(by simp;omega);go_enter Tryz.func152,Tryz.ntmps152
    go_wp2
    go_ret2
    exact⟨by rw[HS.o.1,HS.o.2];rfl,Qd.refl _⟩
theorem Z21 (va vb:Value)(a b:Nat)(w:World)(h:Z09 w va a)(g:Z09 w vb b)(k:Nat)(hk:Lim k a)(gk:Lim k b)(hk2:k≤1099511627776):
  Calls Tryz.prog 126 #[va,vb] w (Z45 a b w):=by
 obtain⟨A,c,l,rfl,hr,hn,rfl⟩:=h;obtain⟨B,d,m,rfl,gr,gn,rfl⟩:=g;have hL:=Lim.len hn hk;have gL:=Lim.len gn gk;have HR:=Za hr;have GR:=Za gr;have HLT:Hid (l.length<m.length→Z27 (val W32 l) (val W32 m)= -1):=fun e=>Z1u (Nm.lt_of_len (by decide) hn.1 gn e);have HGT:Hid (m.length<l.length→Z27 (val W32 l) (val W32 m)=1):=fun e=>Z28 (Nm.lt_of_len (by decide) gn.1 hn e)
 have HAT:Hid (∀k,m.length=l.length→k<l.length→l.drop (k+1)=m.drop (k+1)→(l.getD k 0<m.getD k 0→Z27 (val W32 l) (val W32 m)= -1)∧(m.getD k 0<l.getD k 0→Z27 (val W32 l) (val W32 m)=1)):=
  fun k hlm hkl hd=>⟨fun e=>Z1u (Z2j (by decide) hlm.symm hn.1 hkl hd e),fun e=>Z28 (Z2j (by decide) hlm gn.1 (by omega) hd.symm e)⟩
 have HEQ:Hid (l=m→Z27 (val W32 l) (val W32 m)=0):=fun e=>by rw[e];exact Z2v _
 clear hr gr hn gn hk gk;unfold Z45;generalize Z27 (val W32 l) (val W32 m)=r at*;by_cases hlm:m.length=l.length
 case neg=>
  have ht:((l.length:Int) !=(m.length:Int))=true:=by simp;omega
  by_cases hlt:l.length<m.length
  ·
   have e:=HLT.o hlt;subst e;clear HLT HGT HAT HEQ;go_enter Tryz.func126,Tryz.ntmps126
   go_wp2
   go_ret;exact⟨rfl,Qd.refl _⟩
  ·
   have e:=HGT.o (by omega);subst e;clear HLT HGT HAT HEQ;go_enter Tryz.func126,Tryz.ntmps126
   go_wp2
   go_ret;exact⟨rfl,Qd.refl _⟩
 case pos=>
  have HLM:=Za hlm;rw[hlm];generalize hLL:l.length=L at*;clear hlm HLT HGT;have HLL:=Za hLL;clear hLL;go_enter Tryz.func126,Tryz.ntmps126
  go_wp2
  go_loopw [5] (fun v wr=>((∃k:Nat,k<L∧v= .int .i64 (k:Int)∧Hid (l.drop (k+1)=m.drop (k+1)))∨(v= .int .i64 (-1)∧Hid (l=m)))∧Qd w wr) (fun v _=>(intOf v+1).toNat)
  case atStart=>
   refine⟨?_,Qd.refl _⟩;cases L with
   |zero=>
    refine .inr ⟨by simp, ?_⟩;show _=_;rw[Zk HLL.o,Zk HLM.o]
   |succ K=>
    refine .inl ⟨K,by omega,by go_num, ?_⟩;show _=_;rw[List.drop_of_length_le (by have:=HLL.o;omega),List.drop_of_length_le (by have:=HLM.o;omega)]
  case round=>
   obtain⟨hrel,q,rfl⟩:=hrel;rcases hrel with⟨k,hk,rfl,HD⟩|⟨rfl,HE⟩
   ·
    obtain⟨b1,o1,rfl,hb1,hc1⟩:=Z0s HR.o (by have:=HLL.o;omega);obtain⟨b2,o2,rfl,hb2,hc2⟩:=Z0s GR.o (by have:=HLM.o;omega);have d1:=hc1 k (by have:=HLL.o;omega);have d2:=hc2 k (by have:=HLM.o;omega);have HA:=Za (HAT.o k (by have:=HLM.o;have:=HLL.o;omega) (by have:=HLL.o;omega) HD.o);have HN:Hid (l.getD k 0=m.getD k 0→l.drop k=m.drop k):=fun e=>(by have q1:=HLL.o;have q2:=HLM.o;have h1:k<l.length:=(by omega);have h2:k<m.length:=(by omega);rw[Zg,Zg,Zi h1,Zi h2]at e;rw[List.drop_eq_getElem_cons h1,List.drop_eq_getElem_cons h2,HD.o];simp only[Option.getD_some]at e;rw[e]);clear hc1 hc2;generalize l.getD k 0=x at*;generalize m.getD k 0=y at*;have z0:(0:Int)≤(k:Int):=(by omega);have z1:(k:Int)<(L:Int):=(by omega);rcases Nat.lt_trichotomy x y with hxy|hxy|hxy
    ·
     have e:=HA.o.1 hxy;subst e;have t1:((x:Int) !=(y:Int))=true:=(by simp;omega);clear HA HN HAT HEQ
     go_wp2
     go_quiet (fail)
     go_wp2
     go_quiet (fail)
     go_wp2
     go_ret;exact⟨rfl,Qd.more (Qd.more ⟨_,rfl⟩ _) _⟩
    ·
     subst hxy;have HM:=Za (HN.o rfl);clear HA HN
     go_wp2
     go_quiet (fail)
     go_wp2
     go_roundw
     case rel=>
      refine⟨?_,_,rfl⟩;cases k with
      |zero=>exact .inr ⟨by simp,by show _=_;have:=HM.o;simpa using this⟩
      |succ j=>exact .inl ⟨j,by omega,by go_num,HM.o⟩
     case measure=>simp[intOf]
    ·
     have e:=HA.o.2 hxy;subst e;have t1:((x:Int) !=(y:Int))=true:=(by simp;omega);clear HA HN HAT HEQ
     go_wp2
     go_quiet (fail)
     go_wp2
     go_quiet (fail)
     go_wp2
     go_ret;exact⟨rfl,Qd.more (Qd.more ⟨_,rfl⟩ _) _⟩
   ·
    have e:=HEQ.o HE.o;subst e
    go_wp2
    go_ret;exact⟨rfl,_,rfl⟩
def Z1h (w:World)(g:Nat)(p:List Nat)(n:Nat):Prop:=Blk w g 177 (uc (p++List.replicate n 0))
theorem Z1h.cell {w:World}{g n:Nat}{p:List Nat}(h:Z1h w g p (n+1)):w.cell? ⟨g,p.length,none⟩=some (.int .u32 0)∧w.frozen? ⟨g,p.length,none⟩=false:=by
 refine⟨?_,Blk.frozen h _⟩;rw[Blk.cell h,Z6a _ _ (by simp)];simp[List.getD_eq_getElem?_getD]
theorem Z1h.set {w:World}{g n:Nat}{p:List Nat}(h:Z1h w g p (n+1))(d:Nat):Z1h (w.setCell ⟨g,p.length,none⟩ (.int .u32 (d:Nat))) g (p++ [d]) n:=by
 have:=Blk.set_ h p.length (.int .u32 (d:Nat));unfold Z1h;rw[←fill_set,Z4y];exact this
theorem Z1h.start (w:World)(n:Nat):Z1h (w.alloc (.cells (zs n (.int .u32 0)).toArray 177)) w.heap.size [] n:=by
 have:=Blk.new w 177 (zs n (.int .u32 0));unfold Z1h;have e:uc ([]++List.replicate n 0)=zs n (.int .u32 0):=by simp[uc,zs]
 rw[e];exact this
theorem infoU:(Tryz.prog.info? 177).map (fun i=>(i.zero,i.size,i.bytes))=some (some (.int .u32 0),1,4):=by kernel_rfl
theorem Z2x (n:Int)(k:Nat)(hn:n=k)(hk:k≤35184372088832)(w:World):
  (Instr.makeSlice 112 (.int .i64 n) (.int .i64 n)).run Tryz.prog w= .ok (.slice (some ⟨w.heap.size,0,none⟩) k k) (w.alloc (.cells (zs k (.int .u32 0)).toArray 177)):=by
 obtain⟨i0,hi,hz0,hz1,hz2⟩:=info_parts infoU;exact Zd6 (P:=Tryz.prog) 112 177 i0 (.int .u32 0) 4 Tryz.underlying112 hi hz0 hz1 hz2 rfl n k hn (by omega) (by omega) w
theorem seq_t {a b:ByteArray}(h:a=b):(a.toList==b.toList)=true:=by rw[h];simp
theorem seq_f {a b:ByteArray}(h:¬a=b):(a.toList==b.toList)=false:=by
 rw[ByteArray.toList_eq,ByteArray.toList_eq,beq_eq_false_iff_ne];exact fun e=>h (Z1w e)
theorem Z6f (s:ByteArray)(w:World)(hs:s.size≤9223372036854775807):
  Calls Tryz.prog 83 #[.string s] w fun e w'=>e= .returned (.bool (noZ s.data.toList))∧w=w':=by
 go_enter Tryz.func83,Tryz.ntmps83;go_wp2_with fail
 go_loop [6] (fun i=>∃k:Nat,k≤s.size∧i= .int .i64 k∧Hid ((s.data.toList.take k).all isD=true)) (fun i=>s.size - (intOf i).toNat)
 case atStart=>exact⟨0,Nat.zero_le _,rfl,by simp[Hid]⟩
 case round=>
  obtain⟨k,hk,rfl,HALL⟩:=hrel;by_cases hlt:k<s.size
  case neg=>
   have hd:decide (k<s.size)=false:=(by simpa using hlt);have HA:Hid (s.data.toList.all isD=true):=(by show _=_;have:=HALL.o;rwa [Zl (by rw[Zo];show s.size≤k;omega)]at this);clear HALL;by_cases h0:s=⟨#[48]⟩
   · have e1:(s.toList== [48])=true:=(by rw[ByteArray.toList_eq,h0];rfl);have HE:Hid (noZ s.data.toList=true):=(by show _=_;rw[h0];rfl);clear h0;go_wp2_with fail;go_ret;exact⟨Z0a HE.o.symm,rfl⟩
   ·
    have e1:(s.toList== [48])=false:=(by rw[ByteArray.toList_eq,beq_eq_false_iff_ne];exact fun e=>h0 (Z1w e));by_cases hz:s.size=0
    · have e2:(s.toList== [])=true:=(by rw[ByteArray.toList_eq,s0_of hz];rfl);have HE:Hid (noZ s.data.toList=false):=(by show _=_;rw[s0_of hz];rfl);clear h0;go_wp2_with fail;go_ret;exact⟨Z0a HE.o.symm,rfl⟩
    ·
     have hp:0<s.size:=(by omega);have e2:(s.toList== [])=false:=(by rw[ByteArray.toList_eq,beq_eq_false_iff_ne];exact fun e=>hz (by rw[Z1w (a:=s) (b:=⟨#[]⟩) e];rfl));have hne:s.data.toList≠ []:=fun e=>(by have:=congrArg List.length e;rw[Zo]at this;exact hz this);by_cases h48:(s[0]'hp).toNat=48
     · have e3:(((s[0]'hp).toNat:Int) !=48)=false:=(by simp[h48]);have HE:Hid (noZ s.data.toList=false):=Za0 (by rw[head_of hp,(Zd9 _).2 h48]) (fun e=>h0 (Z1w e));clear h0 h48;go_wp2_with fail;go_ret;exact⟨Z0a HE.o.symm,rfl⟩
     · have e3:(((s[0]'hp).toNat:Int) !=48)=true:=(by simp;omega);have HE:Hid (noZ s.data.toList=true):=noZ_ok HA.o hne (by rw[head_of hp];intro e;injection e with e;exact h48 ((Zd9 _).1 e));clear h0 h48;go_wp2_with fail;go_ret;exact⟨Z0a HE.o.symm,rfl⟩
  have hd:decide (k<s.size)=true:=by simpa using hlt
  have HS:=Za (Z6z s k hlt);cases hv:isD s[k]with
  |true=>
   have HV:Hid ((s.data.toList.take (k+1)).all isD=true):=(by show _=_;rw[HS.o,HALL.o,hv];rfl);obtain⟨g1,g2⟩:=Z6d hv;clear hv;have g1':(48:Int)≤(s[k].toNat:Int):=(by omega);have g2':(s[k].toNat:Int)≤57:=(by omega);go_wp2_with fail
   go_round
   case rel=>exact⟨k+1,by omega,by go_num,HV⟩
   case measure=>simp[intOf];omega
  |false=>
   have HE:Hid (noZ s.data.toList=false):=Z6y (Z5n s k hlt hv);have hcs:s[k].toNat<48∨57<s[k].toNat:=(by unfold isD at hv;simp at hv;omega);clear hv;rcases hcs with g1|g1
   · have g1':(s[k].toNat:Int)<48:=(by omega);go_wp2_with fail;go_ret;exact⟨Z0a HE.o.symm,rfl⟩
   · have g1':(57:Int)<(s[k].toNat:Int):=(by omega);have g2':(48:Int)≤(s[k].toNat:Int):=(by omega);go_wp2_with fail;go_ret;exact⟨Z0a HE.o.symm,rfl⟩
theorem Z1v {w:World}{A:Option Addr}{l:List Nat}(h:Rd w A (nc l))(h0:0<l.length):
  ∃b off,A=some ⟨b,off,none⟩∧b<w.heap.size∧∀k,k<l.length→w.cell? ⟨b,off+k,none⟩=some (.int .i64 (l.getD k 0:Nat)):=by
 obtain⟨b,off,e,hb,hc⟩:=h.at_ (by rw[Z5q];exact h0);exact⟨b,off,e,hb,fun k hk=>hc k _ (Zd1 l k hk)⟩
theorem Z1l {w:World}{A:Option Addr}{c:Nat}{l:List Nat}(h:RdN w A (nc l))(hd:Ds L4 l):Z05 w (.slice A (Z0f l).length c) (val L4 l):=by
 refine⟨A,c,Z0f l,rfl, ?_,Z6t hd,Z5k l⟩;rw[Z36 l];refine⟨?_,fun b off e h0=>h.2 b off e (fun e0=>h0 (by have h1:l= []:=(by simpa [nc]using e0);simp[h1,nc]))⟩;rcases h.1 with h|⟨b,off,e,hb,hc⟩
 · have:l= []:=(by simpa [nc]using h);subst this;exact .inl rfl
 · refine .inr ⟨b,off,e,hb,fun j u hu=>hc j u ?_⟩;rw[←hu];have hj:=(List.getElem?_eq_some_iff.1 hu).1;simp only[nc,List.length_map,List.length_take]at hj;simp only[nc,List.getElem?_map];rw[List.getElem?_take_of_lt (by omega)]
theorem RdN.of_blk {w:World}{g:Nat}{cs:List Value}(h:Blk w g 3 cs):RdN w (some ⟨g,0,none⟩) cs:=by
 refine⟨Blk.rd h,fun b off e _=> ?_⟩;injection e with e;injection e with e;subst e;exact⟨_,_,h⟩
theorem Z2k (A:Option Addr)(c:Nat)(l:List Nat)(w:World)(h:Rd w A (nc l))(hl:l.length≤1099511627776)(hc:l.length≤c)(hc2:c≤9223372036854775807)(hA:A=none→c=0):
  Calls Tryz.prog 131 #[.slice A l.length c] w fun e w'=>e= .returned (.slice A (Z0f l).length c)∧w=w':=by
 have HR:=Za h;clear h;go_enter Tryz.func131,Tryz.ntmps131;go_wp2_with fail
 go_loop [3] (fun v=>∃k:Nat,k≤l.length∧v= .int .i64 (k:Int)∧Hid (Z0f (l.take k)=Z0f l)) (fun v=>(intOf v).toNat)
 case atStart=>exact⟨l.length,Zh _,rfl,by show _=_;rw[List.take_length]⟩
 case round=>
  obtain⟨k,hk,rfl,HT⟩:=hrel;cases k with
  |zero=>
   have HE:Hid ((Z0f l).length=0):=(by show _=_;rw[←HT.o];simp[Z0f]);cases A with
   |none=>
    have:=hA rfl;subst this;go_wp2_with fail;go_ret;exact⟨by rw[HE.o];rfl,rfl⟩
   |some a=>
    have hc0:(0:Int)≤(c:Int):=(by omega);go_wp2_with fail;go_ret;exact⟨by rw[HE.o];rfl,rfl⟩
  |succ k=>
   obtain⟨b,off,rfl,hb,hcs⟩:=Z1v HR.o (by omega);have d0:=hcs k (by omega);have H1:=Za (fun h=>Z81 (l:=l) (k:=k) (by omega) h);have H2:=Za (fun h=>Zd7 (l:=l) (k:=k) (by omega) h);have k0:decide ((0:Int)<(k:Int)+1)=true:=decide_eq_true (by omega);have k1:IntKind.i64.wrap ((k:Int)+1 - 1)=(k:Int):=(by rw[Int.add_sub_cancel];exact IntWalk.i64_in _ (by omega));have k2:(k:Int)+1 - 1=(k:Int):=(by omega);have k3:(k:Int)<(l.length:Int):=(by omega);have k4:(0:Int)≤(k:Int):=(by omega);have k5:(k:Int)+1≤(c:Int):=(by omega);clear hcs hA;generalize l.getD k 0=d at*;by_cases hd:d=0
   ·
    subst hd;go_wp2_with fail
    go_round
    case rel=>exact⟨k,by omega,by go_num,by show _=_;rw[←H2.o rfl];exact HT.o⟩
    case measure=>simp[intOf]
   · have hd0:((d:Int)==0)=false:=(by simpa using hd);have HE:Hid ((Z0f l).length=k+1):=(by show _=_;rw[←HT.o,H1.o hd,List.length_take];omega);go_wp2_with fail;go_ret;exact⟨by rw[HE.o];rfl,rfl⟩
theorem Z5a (va vb:Value)(a b:Nat)(w:World)(h:Z05 w va a)(g:Z05 w vb b)(k:Nat)(hk:Lim k a)(gk:Lim k b)(hk2:k≤1099511627776):
  Calls Tryz.prog 129 #[va,vb] w (Z45 a b w):=by
 obtain⟨A,c,l,rfl,hr,hn,rfl⟩:=h;obtain⟨B,d,m,rfl,gr,gn,rfl⟩:=g;have hL:=Lim.len4 hn hk;have gL:=Lim.len4 gn gk;have HR:=Za hr.1;have GR:=Za gr.1;have HLT:Hid (l.length<m.length→Z27 (val L4 l) (val L4 m)= -1):=fun e=>Z1u (Nm.lt_of_len (by decide) hn.1 gn e);have HGT:Hid (m.length<l.length→Z27 (val L4 l) (val L4 m)=1):=fun e=>Z28 (Nm.lt_of_len (by decide) gn.1 hn e)
 have HAT:Hid (∀k,m.length=l.length→k<l.length→l.drop (k+1)=m.drop (k+1)→(l.getD k 0<m.getD k 0→Z27 (val L4 l) (val L4 m)= -1)∧(m.getD k 0<l.getD k 0→Z27 (val L4 l) (val L4 m)=1)):=
  fun k hlm hkl hd=>⟨fun e=>Z1u (Z2j (by decide) hlm.symm hn.1 hkl hd e),fun e=>Z28 (Z2j (by decide) hlm gn.1 (by omega) hd.symm e)⟩
 have HEQ:Hid (l=m→Z27 (val L4 l) (val L4 m)=0):=fun e=>by rw[e];exact Z2v _
 clear hr gr hn gn hk gk;unfold Z45;generalize Z27 (val L4 l) (val L4 m)=r at*;by_cases hlm:m.length=l.length
 case neg=>
  have ht:((l.length:Int) !=(m.length:Int))=true:=by simp;omega
  by_cases hlt:l.length<m.length
  ·
   have e:=HLT.o hlt;subst e;clear HLT HGT HAT HEQ;go_enter Tryz.func129,Tryz.ntmps129
   go_wp2
   go_ret;exact⟨rfl,Qd.refl _⟩
  ·
   have e:=HGT.o (by omega);subst e;clear HLT HGT HAT HEQ;go_enter Tryz.func129,Tryz.ntmps129
   go_wp2
   go_ret;exact⟨rfl,Qd.refl _⟩
 case pos=>
  have HLM:=Za hlm;rw[hlm];generalize hLL:l.length=L at*;clear hlm HLT HGT;have HLL:=Za hLL;clear hLL;go_enter Tryz.func129,Tryz.ntmps129
  go_wp2
  go_loopw [5] (fun v wr=>((∃k:Nat,k<L∧v= .int .i64 (k:Int)∧Hid (l.drop (k+1)=m.drop (k+1)))∨(v= .int .i64 (-1)∧Hid (l=m)))∧Qd w wr) (fun v _=>(intOf v+1).toNat)
  case atStart=>
   refine⟨?_,Qd.refl _⟩;cases L with
   |zero=>
    refine .inr ⟨by simp, ?_⟩;show _=_;rw[Zk HLL.o,Zk HLM.o]
   |succ K=>
    refine .inl ⟨K,by omega,by go_num, ?_⟩;show _=_;rw[List.drop_of_length_le (by have:=HLL.o;omega),List.drop_of_length_le (by have:=HLM.o;omega)]
  case round=>
   obtain⟨hrel,q,rfl⟩:=hrel;rcases hrel with⟨k,hk,rfl,HD⟩|⟨rfl,HE⟩
   ·
    obtain⟨b1,o1,rfl,hb1,hc1⟩:=Z1v HR.o (by have:=HLL.o;omega);obtain⟨b2,o2,rfl,hb2,hc2⟩:=Z1v GR.o (by have:=HLM.o;omega);have d1:=hc1 k (by have:=HLL.o;omega);have d2:=hc2 k (by have:=HLM.o;omega);have HA:=Za (HAT.o k (by have:=HLM.o;have:=HLL.o;omega) (by have:=HLL.o;omega) HD.o);have HN:Hid (l.getD k 0=m.getD k 0→l.drop k=m.drop k):=fun e=>(by have q1:=HLL.o;have q2:=HLM.o;have h1:k<l.length:=(by omega);have h2:k<m.length:=(by omega);rw[Zg,Zg,Zi h1,Zi h2]at e;rw[List.drop_eq_getElem_cons h1,List.drop_eq_getElem_cons h2,HD.o];simp only[Option.getD_some]at e;rw[e]);clear hc1 hc2;generalize l.getD k 0=x at*;generalize m.getD k 0=y at*;have z0:(0:Int)≤(k:Int):=(by omega);have z1:(k:Int)<(L:Int):=(by omega);rcases Nat.lt_trichotomy x y with hxy|hxy|hxy
    ·
     have e:=HA.o.1 hxy;subst e;have t1:((x:Int) !=(y:Int))=true:=(by simp;omega);clear HA HN HAT HEQ
     go_wp2
     go_quiet (fail)
     go_wp2
     go_ret;exact⟨rfl,Qd.more ⟨_,rfl⟩ _⟩
    ·
     subst hxy;have HM:=Za (HN.o rfl);clear HA HN
     go_wp2
     go_quiet (fail)
     go_wp2
     go_quiet (fail)
     go_wp2
     go_roundw
     case rel=>
      refine⟨?_,⟨_,rfl⟩⟩;cases k with
      |zero=>exact .inr ⟨by simp,by show _=_;have:=HM.o;simpa using this⟩
      |succ j=>exact .inl ⟨j,by omega,by go_num,HM.o⟩
     case measure=>simp[intOf]
    ·
     have e:=HA.o.2 hxy;subst e;have t1:((x:Int) !=(y:Int))=true:=(by simp;omega);clear HA HN HAT HEQ
     go_wp2
     go_quiet (fail)
     go_wp2
     go_quiet (fail)
     go_wp2
     go_ret;exact⟨rfl,Qd.more (Qd.more ⟨_,rfl⟩ _) _⟩
   ·
    have e:=HEQ.o HE.o;subst e
    go_wp2
    go_ret;exact⟨rfl,_,rfl⟩
theorem Zda:(Tryz.prog.info? 3).map (fun i=>(i.zero,i.size,i.bytes))=some (some (.int .i64 0),1,8):=by kernel_rfl
theorem Zdb (n:Int)(k:Nat)(hn:n=k)(hk:k≤17592186044416)(w:World):
  (Instr.makeSlice 65 (.int .i64 n) (.int .i64 n)).run Tryz.prog w= .ok (.slice (some ⟨w.heap.size,0,none⟩) k k) (w.alloc (.cells (zs k (.int .i64 0)).toArray 3)):=by
 obtain⟨i0,hi,hz0,hz1,hz2⟩:=info_parts Zda;exact Zd6 (P:=Tryz.prog) 65 3 i0 (.int .i64 0) 8 Tryz.underlying65 hi hz0 hz1 hz2 rfl n k hn (by omega) (by omega) w
structure MulR (w wr:World)(G g:Nat)(l m o:List Nat)(i j c:Nat):Prop where
 len:o.length=l.length+m.length
 ds:Ds L4 o
 cw:c<L4
 eq:val L4 o+L4 ^ (i+j)*c=val L4 (l.take i)*val L4 m+L4 ^ i*(l.getD i 0*val L4 (m.take j))
 zero:∀k,i+m.length≤k→o.getD k 0=0
 blk:Blk wr g 3 (nc o)
 bel:Below G w wr
theorem MulR.cell {w wr:World}{G g:Nat}{l m o:List Nat}{i j c:Nat}(h:MulR w wr G g l m o i j c){k:Nat}(hk:k<l.length+m.length):
  wr.cell? ⟨g,k,none⟩=some (.int .i64 (o.getD k 0:Nat))∧wr.frozen? ⟨g,k,none⟩=false:=by
 refine⟨?_,h.blk.frozen _⟩;rw[h.blk.cell,Zd1 _ _ (by rw[h.len];exact hk)]
theorem MulR.step {w wr:World}{G g:Nat}{l m o:List Nat}{i j c:Nat}(h:MulR w wr G g l m o i j c)(hG:G≤g)(hi:i<l.length)(hj:j<m.length)(s:Nat)(hs:s=c+(l.getD i 0*m.getD j 0+o.getD (i+j) 0))(hq:s / L4<L4):
  MulR w (wr.setCell ⟨g,i+j,none⟩ (.int .i64 ((s % L4:Nat):Int))) G g l m (o.set (i+j) (s % L4)) i (j+1) (s / L4):=by
 refine⟨by simp[h.len],h.ds.set _ _ (Nat.mod_lt _ (by decide)),hq, ?_,fun k hk=> ?_, ?_,h.bel.setCell (p:=⟨g,i+j,none⟩) hG _⟩
 · have:=Z9w (B:=L4) (a:=l) (b:=m) (o:=o) (i:=i) (j:=j) (c:=c) (by rw[h.len];omega) h.eq;rw[←hs]at this;have e:i+(j+1)=i+j+1:=(Nat.add_assoc i j 1).symm;rw[e];exact this
 · rw[getD_set_ne (by omega)];exact h.zero k hk
 · rw[Zd2];exact h.blk.set_ _ _
theorem MulR.last {w wr:World}{G g:Nat}{l m o:List Nat}{i c:Nat}(h:MulR w wr G g l m o i m.length c)(hG:G≤g)(hi:i<l.length):
  MulR w (wr.setCell ⟨g,i+m.length,none⟩ (.int .i64 (c:Int))) G g l m (o.set (i+m.length) c) (i+1) 0 0:=by
 have hk:i+m.length<o.length:=by rw[h.len];omega
 refine⟨by simp[h.len],h.ds.set _ _ h.cw,by decide, ?_,fun k hk=> ?_, ?_,h.bel.setCell (p:=⟨g,i+m.length,none⟩) hG _⟩
 · exact Zcp hk (h.zero _ (Zh _)) h.eq
 · rw[getD_set_ne (by omega)];exact h.zero k (by omega)
 · rw[Zd2];exact h.blk.set_ _ _
theorem MulR.start {w wr:World}{G g:Nat}{l m o:List Nat}{i j c:Nat}(h:MulR w wr G g l m o i j c)(hj:j=0)(hc:c=0):MulR w wr G g l m o i 0 0:=by
 subst hj hc;exact h
theorem MulR.done {w wr:World}{G g:Nat}{l m o:List Nat}{i:Nat}(h:MulR w wr G g l m o i 0 0)(hi:i=l.length):val L4 o=val L4 l*val L4 m:=by
 have:=h.eq;rw[Nat.mul_zero,Nat.add_zero,List.take_zero,Zl (by omega)]at this;rw[this];simp[val]
theorem MulR.drewN {w wr:World}{G g:Nat}{l m o:List Nat}{i j c:Nat}(h:MulR w wr G g l m o i j c)(n:Nat):MulR w (wr.drewN n) G g l m o i j c:=
 ⟨h.len,h.ds,h.cw,h.eq,h.zero,h.blk,below_drewN h.bel n⟩
def FrB (B:Nat)(v:Value):Prop:=(∀b,v.ownBlock=some b→B≤b)∧∀n c,v= .slice none n c→c=0
theorem FrB.mono {B C:Nat}{v:Value}(h:FrB B v)(hc:C≤B):FrB C v:=⟨fun b hb=>Nat.le_trans hc (h.1 b hb),h.2⟩
def TimR (a b:Nat)(w:World)(e:Ending)(w':World):Prop:=∃v,e= .returned v∧Z05 w' v (a*b)∧FrB w.heap.size v∧Below w.heap.size w w'
theorem Z05.set {w:World}{v:Value}{n:Nat}(h:Z05 w v n){g i:Nat}(hg:v.ownBlock≠some g)(u:Value):Z05 (w.setCell ⟨g,i,none⟩ u) v n:=by
 obtain⟨A,c,l,rfl,hr,hn,hv⟩:=h;refine⟨A,c,l,rfl,hr.kept (by simp[World.setCell]) (fun b off e _ _=> ?_),hn,hv⟩;subst e;have hne:b≠g:=fun e=>hg (by rw[e];rfl);exact Below.heap_setCell w ⟨g,i,none⟩ u b hne
theorem tmod4 (s:Nat):(s:Int).tmod 10000=((s % L4:Nat):Int):=by
 show _=((s % 10000:Nat):Int);rw[Int.tmod_eq_emod_of_nonneg (by omega)];omega
theorem tdiv4 (s:Nat):(s:Int).tdiv 10000=((s / L4:Nat):Int):=by
 show _=((s / 10000:Nat):Int);rw[Int.tdiv_eq_ediv_of_nonneg (by omega)];omega
theorem Z19 (va vb:Value)(a b:Nat)(w:World)(h:Z05 w va a)(g:Z05 w vb b)(k k':Nat)(hk:Lim k a)(gk:Lim k' b)(hk2:k+k'≤1000000000):
  Calls Tryz.prog 88 #[va,vb] w (TimR a b w):=by
 obtain⟨A,c,l,rfl,hr,hn,rfl⟩:=h;obtain⟨B,d,m,rfl,gr,gn,rfl⟩:=g;have hL:=Lim.len4 hn hk;have gL:=Lim.len4 gn gk;have HDl:=Za hn.1;have HDm:=Za gn.1;have HRl:=Za hr.1;have HRm:=Za gr.1;have hw:L4=10000:=rfl;have HW:=Za hw;clear hr gr hn gn hk gk hw;have hlm:l.length+m.length≤3000000000:=by omega
 have HMK:∀W:World,(Instr.makeSlice 65 (.int .i64 ((l.length:Int)+(m.length:Int))) (.int .i64 ((l.length:Int)+(m.length:Int)))).run Tryz.prog W= .ok (.slice (some ⟨W.heap.size,0,none⟩) (l.length+m.length) (l.length+m.length)) (W.alloc (.cells (zs (l.length+m.length) (.int .i64 0)).toArray 3)):=fun W=>Zdb _ _ (by omega) (by omega) W
 have HST:Hid (MulR w (w.alloc (.cells (zs (l.length+m.length) (.int .i64 0)).toArray 3)) w.heap.size w.heap.size l m (List.replicate (l.length+m.length) 0) 0 0 0):=by
  refine⟨by simp, ?_,by decide, ?_, ?_, ?_,(Zm _ _).alloc (Zh _) _⟩
  · intro x hx;rw[List.eq_of_mem_replicate hx];decide
  · rw[Z5j];simp[val]
  ·
   intro k _;rw[Zg];by_cases hk:k<l.length+m.length
   · simp[hk]
   · simp[hk]
  · have e:nc (List.replicate (l.length+m.length) 0)=zs (l.length+m.length) (.int .i64 0):=(by simp[nc,zs]);rw[e];exact Blk.new _ _ _
 go_enter Tryz.func88,Tryz.ntmps88;go_wp2_with fail
 go_loopw [6] (fun iv wr=>∃(i:Nat) (o:List Nat),i≤l.length∧iv= .int .i64 (i:Int)∧Hid (MulR w wr w.heap.size w.heap.size l m o i 0 0)) (fun iv _=>l.length - (intOf iv).toNat)
 case atStart=>exact⟨0,_,Nat.zero_le _,rfl,HST⟩
 case round=>
  obtain⟨i,o,hi,rfl,HI⟩:=hrel;obtain⟨wo,hwo⟩:∃wo,wo=wr:=⟨_,rfl⟩;subst hwo;by_cases hil:i<l.length
  case neg=>have hii:i=l.length:=(by omega);have hd0:decide (i<l.length)=false:=(by simpa using hil);have HV:=Za (HI.o.done hii);have HRD:=Za (RdN.of_blk HI.o.blk);have HTR:Hid (∀W,W=wo→Calls Tryz.prog 131 #[.slice (some ⟨w.heap.size,0,none⟩) (l.length+m.length) (l.length+m.length)] W fun e w'=>e= .returned (.slice (some ⟨w.heap.size,0,none⟩) (Z0f o).length (l.length+m.length))∧W=w'):=fun W hW=>(by subst hW;have:=Z2k (some ⟨w.heap.size,0,none⟩) (l.length+m.length) o _ HRD.o.1 (by rw[HI.o.len];omega) (by rw[HI.o.len];omega) (by omega) (fun h=>by cases h);rw[HI.o.len]at this;exact this);subst hii;clear hi hil;go_wp2_with fail;refine(HTR.o _ rfl).mono ?_;rintro e w' ⟨rfl,rfl⟩;go_wp2_with fail;go_ret;refine⟨_,rfl, ?_,⟨fun b hb=>by injection hb with hb;exact Nat.le_of_eq hb,fun n c h=>by injection h with h;cases h⟩,HI.o.bel⟩;have:=Z1l (c:=l.length+m.length) HRD.o HI.o.ds;rw[HV.o]at this;exact this
  have hd0:decide (i<l.length)=true:=by simpa using hil
  go_wp2_with fail
  go_loopw [7,8] (fun cv jv wr=>∃(j c:Nat) (o:List Nat),j≤m.length∧jv= .int .i64 (j:Int)∧cv= .int .i64 (c:Int)∧c<10000∧Hid (MulR w wr w.heap.size w.heap.size l m o i j c)) (fun _ jv _=>m.length - (intOf jv).toNat)
  case atStart=>exact⟨0,0,o,Nat.zero_le _,rfl,rfl,by omega,HI.o⟩
  case round=>
   clear HI;obtain⟨j,c2,o2,hj,rfl,rfl,hc2,HJ⟩:=hrel;by_cases hjl:j<m.length
   case neg=>
    have hdj:decide (j<m.length)=false:=(by simpa using hjl);have hjj:j=m.length:=(by omega);subst hjj;obtain⟨e1,f1⟩:=HJ.o.cell (k:=i+m.length) (by omega);have HZ:Hid (o2.getD (i+m.length) 0=0):=HJ.o.zero _ (Zh _);rw[HZ.o]at e1;have HJ2:=Za (HJ.o.last (Zh _) hil);clear HZ;obtain⟨p,hp⟩:∃p:Nat,i+m.length=p:=⟨_,rfl⟩;rw[hp]at e1 f1 HJ2;have hij63:IntKind.i64.wrap ((i:Int)+(m.length:Int))=(p:Int):=(by rw[show(i:Int)+(m.length:Int)=(p:Int) by omega];exact IntWalk.i64_in _ (by omega));have k0:(0:Int)≤(p:Int):=(by omega);have k1:(p:Int)<(l.length:Int)+(m.length:Int):=(by omega);have c63:IntKind.i64.wrap (0+(c2:Int))=(c2:Int):=(by rw[Int.zero_add];exact IntWalk.i64_in _ (by omega));clear hp;go_wp2_with fail;go_roundw
    case rel=>exact⟨i+1,_,by omega,by go_num,HJ2⟩
    case measure=>simp[intOf];omega
   have hdj:decide (j<m.length)=true:=(by simpa using hjl);have HBw:Hid (Below w.heap.size w wr):=HJ.o.bel;obtain⟨b1,o1,rfl,hb1,hc1⟩:=Z1v (HRl.o.below HBw.o) (by omega);obtain⟨b2,o2',rfl,hb2,hcm⟩:=Z1v (HRm.o.below HBw.o) (by omega);have d1:=hc1 i hil;have d2:=hcm j hjl;have x1:=HDl.o.getD (by decide) i;have y1:=HDm.o.getD (by decide) j;obtain⟨e1,f1⟩:=HJ.o.cell (k:=i+j) (by omega);have q1:=HJ.o.ds.getD (by decide) (i+j);rw[HW.o]at x1 y1 q1;have HSTP:Hid (∀(n s:Nat),s=c2+(l.getD i 0*m.getD j 0+o2.getD (i+j) 0)→s / L4<L4→MulR w ((wr.drewN n).setCell ⟨w.heap.size,i+j,none⟩ (.int .i64 ((s % L4:Nat):Int))) w.heap.size w.heap.size l m (o2.set (i+j) (s % L4)) i (j+1) (s / L4)):=fun n s hs hq=>(HJ.o.drewN n).step (Zh _) hil hjl s hs hq;clear hc1 hcm HJ HBw;generalize l.getD i 0=x at*;generalize m.getD j 0=y at*;generalize o2.getD (i+j) 0=z at*;obtain⟨hm1,hm2⟩:=Z6c (B:=10000) x1 y1 hc2 q1;obtain⟨xy,hxy⟩:∃xy:Nat,xy=x*y:=⟨_,rfl⟩;rw[←hxy]at HSTP hm1 hm2;have HXY:Hid ((x:Int)*(y:Int)=(xy:Int)):=(by show _=_;rw[hxy];exact(Int.natCast_mul x y).symm);clear hxy;obtain⟨s,hs⟩:∃s:Nat,s=c2+(xy+z):=⟨_,rfl⟩;have HJ2:=Za (fun n=>HSTP.o n s hs (by rw[HW.o];rw[hs];exact hm2));have hs2:s / L4<10000:=(by rw[HW.o,hs];exact hm2);have HS2:=Za hs2;have hs3:s<100000000:=(by omega);have W1:IntKind.i64.wrap ((x:Int)*(y:Int))=(xy:Int):=(by rw[HXY.o];exact IntWalk.i64_in _ (by omega));obtain⟨zx,hzx⟩:∃zx:Nat,zx=z+xy:=⟨_,rfl⟩;have W2:IntKind.i64.wrap ((z:Int)+(xy:Int))=(zx:Int):=(by rw[show(z:Int)+(xy:Int)=(zx:Int) by omega];exact IntWalk.i64_in _ (by omega));have W3:IntKind.i64.wrap ((zx:Int)+(c2:Int))=(s:Int):=(by rw[show(zx:Int)+(c2:Int)=(s:Int) by omega];exact IntWalk.i64_in _ (by omega));obtain⟨r,hr⟩:∃r,s % L4=r:=⟨_,rfl⟩;obtain⟨q,hq⟩:∃q,s / L4=q:=⟨_,rfl⟩;have T1:(s:Int).tmod 10000=(r:Int):=(by rw[←hr];exact tmod4 s);have T2:(s:Int).tdiv 10000=(q:Int):=(by rw[←hq];exact tdiv4 s);have T3:IntKind.i64.wrap (r:Int)=(r:Int):=IntWalk.i64_in _ (by have:=Nat.mod_le s L4;omega);have T4:IntKind.i64.wrap (q:Int)=(q:Int):=IntWalk.i64_in _ (by omega);obtain⟨p,hp⟩:∃p:Nat,i+j=p:=⟨_,rfl⟩;rw[hr,hq]at HJ2;rw[hq]at HS2;rw[hp]at e1 f1 HJ2;have hij63:IntKind.i64.wrap ((i:Int)+(j:Int))=(p:Int):=(by rw[show(i:Int)+(j:Int)=(p:Int) by omega];exact IntWalk.i64_in _ (by omega));have k0:(0:Int)≤(p:Int):=(by omega);have k1:(p:Int)<(l.length:Int)+(m.length:Int):=(by omega);have i0:(0:Int)≤(i:Int):=(by omega);have i1:(i:Int)<(l.length:Int):=(by omega);have m0:(0:Int)≤(j:Int):=(by omega);have m1:(j:Int)<(m.length:Int):=(by omega);clear HSTP hm1 hm2 hs2 hs hzx hr hq hp;go_wp2_with fail
   go_quiet (fail)
   go_wp2_with fail;go_roundw
   case rel=>exact⟨j+1,q,_,by omega,by go_num,rfl,HS2.o,HJ2.o _⟩
   case measure=>simp[intOf];omega
theorem Z6g (va:Value)(a n:Nat)(w:World)(h:Z05 w va a)(k:Nat)(hk:Lim k a)(hk2:k≤999999999)(hn:n<10000):
  Calls Tryz.prog 158 #[va,.int .i64 (n:Int)] w (TimR a n w):=by
 obtain⟨w1,hw1⟩:∃w1,w1=w.alloc (.cells #[.int .i64 (n:Int)] 3):=⟨_,rfl⟩;have HB:Hid (Below w.heap.size w w1):=by rw[hw1];exact(Zm _ _).alloc (Zh _) _
 have HRD:Hid (RdN w1 (some ⟨w.heap.size,0,none⟩) (nc [n])):=by rw[hw1];exact RdN.of_blk (Blk.new w 3 (nc [n]))
 have HTR:=Za (Z2k (some ⟨w.heap.size,0,none⟩) 1 [n] w1 HRD.o.1 (by simp) (by simp) (by omega) (fun h=>by cases h));have HLV:Hid (Z05 w1 (.slice (some ⟨w.heap.size,0,none⟩) (Z0f [n]).length 1) n):=by have:=Z1l (c:=1) HRD.o (by intro d hd;simp at hd;subst hd;exact hn:Ds L4 [n]);rw[show val L4 [n]=n by simp[val]]at this;exact this
 have hn1:Lim 1 n:=by unfold Lim;have:W32 ^ 1=4294967296:=(by rw[Nat.pow_one];rfl);omega
 have HTM:=Za (Z19 va _ a n w1 (h.below HB.o) HLV.o k 1 hk hn1 (by omega));obtain⟨A,c,l,rfl,_⟩:=h;generalize (Z0f [n]).length=tl at*;have HW:=Za hw1;clear hw1 HRD HLV hn1 hk;simp only[List.length_cons,List.length_nil,Nat.zero_add]at HTR;go_enter Tryz.func158,Tryz.ntmps158;go_wp2_with fail;rw[←HW.o];refine HTR.o.mono ?_;rintro e w' ⟨rfl,rfl⟩;go_wp2_with fail;refine HTM.o.mono ?_;rintro e w' ⟨v,rfl,hv,hf,hb⟩;have HV:=Za hv;have HF:=Za (hf.mono HB.o.size);have HB2:=Za (HB.o.trans (hb.mono HB.o.size));clear hv hf hb;go_wp2_with fail;go_ret;exact⟨v,rfl,HV.o,HF.o,HB2.o⟩
def LesR (a b:Nat)(w:World)(e:Ending)(w':World):Prop:=∃v,e= .returned v∧Z05 w' v (a - b)∧FrB w.heap.size v∧Below w.heap.size w w'
def LesI (w wr:World)(l m:List Nat)(A:Option Addr)(c i o:Nat)(p:List Nat):Prop:=
 (p.length=i∧Ds L4 p∧val L4 p+val L4 (m.take i)=val L4 (l.take i)+L4 ^ i*o)∧wr.ownsRow w.heap.size 3 1 (.slice A p.length c) p.length (nc p)∧Below w.heap.size w wr
theorem Z13 {w:World}{base e size n c:Nat}{A:Option Addr}{xs:List Value}(h:w.ownsRow base e size (.slice A n c) n xs):n≤c∧c≤9223372036854775807∧(A=none→c=0):=by
 rcases h.2 with⟨e,rfl⟩|⟨g,cap,cur,hv,_,_,h4,h5,_⟩
 · injection e with e1 e2 e3;subst e3;exact⟨Nat.zero_le _,by omega,fun _=>rfl⟩
 · injection hv with e1 e2 e3;subst e3;refine⟨h4,by unfold maxLen at h5;omega,fun h=> ?_⟩;rw[h]at e1;cases e1
theorem Z5r (va vb:Value)(a b:Nat)(w:World)(h:Z05 w va a)(g:Z05 w vb b)(k:Nat)(hk:Lim k a)(hab:b≤a)(hk2:k≤1000000000):
  Calls Tryz.prog 134 #[va,vb] w (LesR a b w):=by
 obtain⟨A,c,l,rfl,hr,hn,rfl⟩:=h;obtain⟨B,d,m,rfl,gr,gn,rfl⟩:=g;have hL:=Lim.len4 hn hk
 have hml:m.length≤l.length:=by
  rcases Nat.lt_or_ge l.length m.length with h1|h1
  · have:=Nm.lt_of_len (by decide) hn.1 gn h1;omega
  · exact h1
 have HDl:=Za hn.1;have HDm:=Za gn.1;have HRl:=Za hr.1;have HRm:=Za gr.1;have hw:L4=10000:=rfl;have HW:=Za hw;have HAB:=Za hab;clear hr gr hn gn hk hw hab;obtain⟨ii,hii,hzi0,hzi1,hzi2⟩:=info_parts Zda;go_enter Tryz.func134,Tryz.ntmps134;go_wp2_with fail
 go_loopw [5,6,7] (fun ov cv iv wr=>∃(i o:Nat) (p:List Nat) (A5:Option Addr) (c5:Nat),i≤l.length∧iv= .int .i64 (i:Int)∧ov= .slice A5 p.length c5∧cv= .int .i64 (o:Int)∧o≤1∧Hid (LesI w wr l m A5 c5 i o p)) (fun _ _ iv _=>l.length - (intOf iv).toNat)
 case atStart=>exact⟨0,0,[],none,0,Nat.zero_le _,rfl,rfl,rfl,by omega,⟨rfl,Ds.nil,by simp[val]⟩,World.ownsRow_nil _ _ _ _,Zm _ _⟩
 case round=>
  obtain⟨i,o,p,A5,c5,hi,rfl,rfl,rfl,ho,HI⟩:=hrel;have HO:=Za HI.o.2.1;have HB:=Za HI.o.2.2;have hpl:p.length≤3000000000:=by have:=HI.o.1.1;omega
  by_cases hil:i<l.length
  case neg=>
   have hd0:decide (i<l.length)=false:=(by simpa using hil);have hii2:i=l.length:=by omega
   have HV:Hid (val L4 p=val L4 l - val L4 m∧Ds L4 p):=by
    obtain⟨q1,q3,q4⟩:=HI.o.1;refine⟨?_,q3⟩;rw[Zl (by omega),Zl (by omega)]at q4;have h1:=Z2z (by decide) q3;rw[q1]at h1;have h2:=HAB.o
    have h3:o=0:=by
     rcases Nat.eq_zero_or_pos o with e|e
     · exact e
     · have:o=1:=(by omega);subst this;omega
    subst h3;omega
   have HFR:Hid (∀tl,FrB w.heap.size (.slice A5 tl c5)):=fun tl=>⟨fun b hb=>(HO.o.lt b (by cases A5<;>exact hb)).1,fun n c h=>by injection h with h1 h2 h3;subst h3;exact(Z13 HO.o).2.2 h1⟩;have HTR:=Za (Z2k A5 c5 p wr (Rd.of_own HO.o) (by omega) (Z13 HO.o).1 (Z13 HO.o).2.1 (Z13 HO.o).2.2);subst hii2;clear hi hil;go_wp2_with fail;refine HTR.o.mono ?_;rintro e w' ⟨rfl,rfl⟩;go_wp2_with fail;go_ret;refine⟨_,rfl, ?_,HFR.o _,HB.o⟩;have:=Z1l (c:=c5) (RdN.of_own HO.o) HV.o.2;rw[HV.o.1]at this;exact this
  have hd0:decide (i<l.length)=true:=by simpa using hil
  obtain⟨b1,o1,rfl,hb1,hc1⟩:=Z1v (HRl.o.below HB.o) (by omega);have d1:=hc1 i hil;have x1:=HDl.o.getD (by decide) i;have y1:=HDm.o.getD (by decide) i;rw[HW.o]at x1 y1;have i0:(0:Int)≤(i:Int):=by omega
  have i1:(i:Int)<(l.length:Int):=by omega
  have HNX:Hid (∀(d o':Nat),d<10000→d+m.getD i 0+o=l.getD i 0+10000*o'→∀(g8 cap8:Nat) (w8:World) (ob:Obj),w8.ownsRow w.heap.size 3 1 (.slice (some ⟨g8,0,none⟩) (p.length+1) cap8) (p.length+1) (nc p++ [.int .i64 (d:Int)])→(wr.alloc ob).grownBy w8 (Value.slice A5 p.length c5).ownBlock→
    LesI w w8 l m (some ⟨g8,0,none⟩) cap8 (i+1) o' (p++ [d])):=fun d o' hd hs g8 cap8 w8 ob h1 h2=>by
   obtain⟨q1,q3,q4⟩:=HI.o.1;refine⟨⟨by simp[q1],q3.app (by intro x hx;simp at hx;subst hx;exact hd),Z9v q1 q4 (by rw[HW.o];exact hs)⟩, ?_, ?_⟩
   · rw[Z44,Zj];exact h1
   · exact Below.grown (HB.o.alloc HB.o.size ob) h2 (by simp;have:=HB.o.size;omega) (fun b hb=>(HO.o.lt b hb).1)
  have hzr:=HB.o.size;clear hc1;generalize l.getD i 0=x at*;by_cases him:i<m.length
  ·
   have hdm:decide (i<m.length)=true:=(by simpa using him);obtain⟨b2,o2,rfl,hb2,hc2⟩:=Z1v (HRm.o.below HB.o) (by omega);have d2:=hc2 i him;have m1:(i:Int)<(m.length:Int):=(by omega);clear hc2 HI;generalize m.getD i 0=y at*;have W1:IntKind.i64.wrap ((x:Int) - (o:Int))=(x:Int) - (o:Int):=IntWalk.i64_in _ (by omega);by_cases hlt:x<o+y
   ·
    obtain⟨d,hd⟩:∃d:Nat,d=x+10000 - o - y:=⟨_,rfl⟩;have W2:IntKind.i64.wrap ((x:Int) - (o:Int) - (y:Int))=(x:Int) - (o:Int) - (y:Int):=IntWalk.i64_in _ (by omega);have W3:IntKind.i64.wrap ((x:Int) - (o:Int) - (y:Int)+10000)=(d:Int):=(by rw[show(x:Int) - (o:Int) - (y:Int)+10000=(d:Int) by omega];exact IntWalk.i64_in _ (by omega));have hneg:decide ((x:Int) - (o:Int) - (y:Int)<0)=true:=decide_eq_true (by omega);have HNX:=Za (HNX.o d 1 (by omega) (by omega));clear hd hlt;go_wp2_with (at_builtin;refine wpList_append_lies _ rfl _ _ 65 rfl w.heap.size 3 ii _ 1 8 Tryz.underlying65 hii hzi0 hzi1 hzi2 rfl (by decide) _ _ _ rfl (World.ownsRow.alloc HO.o _) ⟨wr.heap.size,0,none⟩ 1 1 [.int .i64 (d:Int)] (by rfl) (by rfl) (World.news_of_block (cs:= #[.int .i64 (d:Int)]) (t:=3) (fr:=(0,0)) (heap_alloc_new wr _)) (by simp[Value.oneCell']) (by decide) (by unfold maxLen;omega) (by omega) (by simp;omega) (wr.heap.size+1) (by simp) ?_;intro g8 cap8 w8 hown8 hgrow8 hat8 hlt8;have HF8:=Za (HNX.o _ _ _ _ hown8 hgrow8);clear hown8 hgrow8 hat8 hlt8);go_roundw
    case rel=>exact⟨i+1,1,p++ [d],_,_,by omega,by go_num,by rw[Zj];rfl,rfl,by omega,HF8⟩
    case measure=>simp[intOf];omega
   ·
    obtain⟨d,hd⟩:∃d:Nat,d=x - o - y:=⟨_,rfl⟩;have W2:IntKind.i64.wrap ((x:Int) - (o:Int) - (y:Int))=(d:Int):=(by rw[show(x:Int) - (o:Int) - (y:Int)=(d:Int) by omega];exact IntWalk.i64_in _ (by omega));have hneg:decide ((d:Int)<0)=false:=decide_eq_false (by omega);have HNX:=Za (HNX.o d 0 (by omega) (by omega));clear hd hlt;go_wp2_with (at_builtin;refine wpList_append_lies _ rfl _ _ 65 rfl w.heap.size 3 ii _ 1 8 Tryz.underlying65 hii hzi0 hzi1 hzi2 rfl (by decide) _ _ _ rfl (World.ownsRow.alloc HO.o _) ⟨wr.heap.size,0,none⟩ 1 1 [.int .i64 (d:Int)] (by rfl) (by rfl) (World.news_of_block (cs:= #[.int .i64 (d:Int)]) (t:=3) (fr:=(0,0)) (heap_alloc_new wr _)) (by simp[Value.oneCell']) (by decide) (by unfold maxLen;omega) (by omega) (by simp;omega) (wr.heap.size+1) (by simp) ?_;intro g8 cap8 w8 hown8 hgrow8 hat8 hlt8;have HF8:=Za (HNX.o _ _ _ _ hown8 hgrow8);clear hown8 hgrow8 hat8 hlt8);go_roundw
    case rel=>exact⟨i+1,0,p++ [d],_,_,by omega,by go_num,by rw[Zj];rfl,rfl,by omega,HF8⟩
    case measure=>simp[intOf];omega
  ·
   have hdm:decide (i<m.length)=false:=(by simpa using him);have hy:m.getD i 0=0:=(by rw[Zg,List.getElem?_eq_none (by omega)];rfl);rw[hy]at HNX;clear HI hy y1;by_cases hlt:x<o
   ·
    obtain⟨d,hd⟩:∃d:Nat,d=x+10000 - o:=⟨_,rfl⟩;have W1:IntKind.i64.wrap ((x:Int) - (o:Int))=(x:Int) - (o:Int):=IntWalk.i64_in _ (by omega);have W3:IntKind.i64.wrap ((x:Int) - (o:Int)+10000)=(d:Int):=(by rw[show(x:Int) - (o:Int)+10000=(d:Int) by omega];exact IntWalk.i64_in _ (by omega));have hneg:decide ((x:Int) - (o:Int)<0)=true:=decide_eq_true (by omega);have HNX:=Za (HNX.o d 1 (by omega) (by omega));clear hd hlt;go_wp2_with (at_builtin;refine wpList_append_lies _ rfl _ _ 65 rfl w.heap.size 3 ii _ 1 8 Tryz.underlying65 hii hzi0 hzi1 hzi2 rfl (by decide) _ _ _ rfl (World.ownsRow.alloc HO.o _) ⟨wr.heap.size,0,none⟩ 1 1 [.int .i64 (d:Int)] (by rfl) (by rfl) (World.news_of_block (cs:= #[.int .i64 (d:Int)]) (t:=3) (fr:=(0,0)) (heap_alloc_new wr _)) (by simp[Value.oneCell']) (by decide) (by unfold maxLen;omega) (by omega) (by simp;omega) (wr.heap.size+1) (by simp) ?_;intro g8 cap8 w8 hown8 hgrow8 hat8 hlt8;have HF8:=Za (HNX.o _ _ _ _ hown8 hgrow8);clear hown8 hgrow8 hat8 hlt8);go_roundw
    case rel=>exact⟨i+1,1,p++ [d],_,_,by omega,by go_num,by rw[Zj];rfl,rfl,by omega,HF8⟩
    case measure=>simp[intOf];omega
   ·
    obtain⟨d,hd⟩:∃d:Nat,d=x - o:=⟨_,rfl⟩;have W1:IntKind.i64.wrap ((x:Int) - (o:Int))=(d:Int):=(by rw[show(x:Int) - (o:Int)=(d:Int) by omega];exact IntWalk.i64_in _ (by omega));have hneg:decide ((d:Int)<0)=false:=decide_eq_false (by omega);have HNX:=Za (HNX.o d 0 (by omega) (by omega));clear hd hlt;go_wp2_with (at_builtin;refine wpList_append_lies _ rfl _ _ 65 rfl w.heap.size 3 ii _ 1 8 Tryz.underlying65 hii hzi0 hzi1 hzi2 rfl (by decide) _ _ _ rfl (World.ownsRow.alloc HO.o _) ⟨wr.heap.size,0,none⟩ 1 1 [.int .i64 (d:Int)] (by rfl) (by rfl) (World.news_of_block (cs:= #[.int .i64 (d:Int)]) (t:=3) (fr:=(0,0)) (heap_alloc_new wr _)) (by simp[Value.oneCell']) (by decide) (by unfold maxLen;omega) (by omega) (by simp;omega) (wr.heap.size+1) (by simp) ?_;intro g8 cap8 w8 hown8 hgrow8 hat8 hlt8;have HF8:=Za (HNX.o _ _ _ _ hown8 hgrow8);clear hown8 hgrow8 hat8 hlt8);go_roundw
    case rel=>exact⟨i+1,0,p++ [d],_,_,by omega,by go_num,by rw[Zj];rfl,rfl,by omega,HF8⟩
    case measure=>simp[intOf];omega
theorem grownBy_refl (w:World)(row:Option Nat):w.grownBy w row:=
 ⟨rfl,rfl,rfl,Zh _,fun _ _ _=>rfl⟩
theorem app_lim {ops:Array Oper}{rest:List Oper}{o:Oper}{a:Act}{Q:Exit→Act→World→Prop}{w:World}(hgd:o.guard=none)(s x:Operand)
  (ho:o.op= .call {callee:= .builtin .append,args:= #[s,x],argTypes:= #[65,65]})
  (base:Nat) (v:Value) (n:Nat) (xs:List Value) (hs:a.eval s=v) (hown:w.ownsRow base 3 1 v n xs)
  (B:Option Addr) (c:Nat) (l:List Nat) (hx:a.eval x= .slice B l.length c) (hr:Rd w B (nc l)) (hB:B=none→c=0) (hl:n+l.length≤3000000000000) (hbase:base≤w.heap.size)
  (h:∀v' w',w'.ownsRow base 3 1 v' (n+l.length) (xs++nc l)→w.grownBy w' v.ownBlock→wpList Tryz.prog ops Q rest (a.put o.dst v') w'):wpList Tryz.prog ops Q (o::rest) a w:=by
 obtain⟨ii,hii,hzi0,hzi1,hzi2⟩:=info_parts Zda;cases B with
 |none=>
  have hc:=hB rfl
  have hl0:l= []:=by
   rcases hr with h|⟨b,off,e,_⟩
   · simpa [nc]using h
   · cases e
  subst hc hl0;refine wpList_append_own_none hgd s x 65 ho base 3 ii 1 Tryz.underlying65 hii v n xs hs hown hx (h v w ?_ (grownBy_refl _ _));simpa [nc]using hown
 |some ad=>
  refine wpList_append_own w hgd s x 65 ho base 3 ii _ 1 8 Tryz.underlying65 hii hzi0 hzi1 hzi2 rfl (by decide) v n xs hs hown ad l.length c (nc l) hx (by rw[Z5q];omega) ?_ ?_ (by unfold maxLen;omega) (by omega) hbase ?_
  ·
   intro j u hj;rcases hr with h|⟨b,off,e,hb,hc⟩
   · rw[h]at hj;simp at hj
   · have:=hc j u hj;injection e with e;subst e;have he:(⟨b,off,none⟩:Addr).add j=⟨b,off+j,none⟩:=(by unfold Addr.add;split<;>simp_all);rw[he];exact this
  · intro u hu;simp only[nc,List.mem_map]at hu;obtain⟨d,_,rfl⟩:=hu;rfl
  · intro v' w' h1 h2 _;exact h v' w' h1 h2
structure DvI (w wr:World)(G:Nat)(l:List Nat)(b i:Nat)(o:List Nat)(rv:Value)(R:Nat):Prop where
 len:o.length=l.length
 ds:Ds L4 o
 eq:val L4 (l.drop i)=val L4 (o.drop i)*b+R
 lt:R<b
 blk:Blk wr G 3 (nc o)
 bel:Below G w wr
 rest:Z05 wr rv R
 fr:FrB (G+1) rv
theorem DvI.cell {w wr:World}{G b i:Nat}{l o:List Nat}{rv:Value}{R:Nat}(h:DvI w wr G l b i o rv R){k:Nat}(hk:k<l.length):
  wr.cell? ⟨G,k,none⟩=some (.int .i64 (o.getD k 0:Nat))∧wr.frozen? ⟨G,k,none⟩=false:=by
 refine⟨?_,h.blk.frozen _⟩;rw[h.blk.cell,Zd1 _ _ (by rw[h.len];exact hk)]
theorem DvI.step {w wr wx w2:World}{G b k:Nat}{l o:List Nat}{rv rv':Value}{R r d:Nat}(h:DvI w wr G l b (k+1) o rv R)(hk:k<l.length)(hG:w.heap.size=G)
  (hr:r=l.getD k 0+L4*R) (hd:d<L4) (hq:r / b=d) (hb:Below wr.heap.size wr wx)
  (hw2:Below (wx.setCell ⟨G,k,none⟩ (.int .i64 (d:Int))).heap.size (wx.setCell ⟨G,k,none⟩ (.int .i64 (d:Int))) w2) (hv:Z05 w2 rv' (r % b)) (hf:FrB wx.heap.size rv'):
  DvI w w2 G l b k (o.set k d) rv' (r % b):=by
 have hb0:0<b:=by have:=h.lt;omega
 have hgl:=h.blk.lt;subst hG;have hbx:Below w.heap.size w wx:=h.bel.trans (hb.mono h.bel.size);have hbx2:Below w.heap.size w (wx.setCell ⟨w.heap.size,k,none⟩ (.int .i64 (d:Int))):=hbx.setCell (p:=⟨w.heap.size,k,none⟩) (Zh _) _;have hblk:Blk wx w.heap.size 3 (nc o):=(hb.block _ hgl).trans h.blk;refine⟨by simp[h.len],h.ds.set _ _ hd, ?_,Nat.mod_lt _ hb0, ?_,hbx2.trans (hw2.mono hbx2.size),hv,hf.mono (by have:=hb.size;omega)⟩
 · have h1:=dv_step hk h.eq;rw[←hr,hq]at h1;rw[h1,dv_val (by rw[h.len];exact hk) rfl]
 ·
  refine(hw2.block _ ?_).trans ?_
  · have:=hb.size;simp[World.setCell];omega
  · have:=hblk.set_ k (.int .i64 (d:Int));rw[Zd2];exact this
def DivR (a b:Nat)(w:World)(e:Ending)(w':World):Prop:=∃v1 v2,e= .returned (.tuple #[v1,v2])∧Z05 w' v1 (a / b)∧Z05 w' v2 (a % b)∧Below w.heap.size w w'
def NxtR (wr:World)(r:Nat)(v:Value)(W:World):Prop:=Z05 W v r∧FrB wr.heap.size v∧Below wr.heap.size wr W
theorem Z3v (va vb:Value)(a b:Nat)(w:World)(h:Z05 w va a)(g:Z05 w vb b)(hb:0<b)(k k':Nat)(hk:Lim k a)(gk:Lim k' b)(hk2:k≤100000000)(hk3:k'≤100000000):
  Calls Tryz.prog 130 #[va,vb] w (DivR a b w):=by
 obtain⟨A,c,l,rfl,hr,hn,rfl⟩:=h;have hL:=Lim.len4 hn hk;have HDl:=Za hn.1;have HRl:=Za hr.1;have HVB:=Za g;have HLB:=Za gk;have HB0:=Za hb;have hw:L4=10000:=rfl;have HW:=Za hw;clear hr hn hk hw g gk hb;obtain⟨wz,hwz⟩:∃wz,wz=w.alloc (.cells (zs l.length (.int .i64 0)).toArray 3):=⟨_,rfl⟩;have HMK:∀W:World,(Instr.makeSlice 65 (.int .i64 (l.length:Int)) (.int .i64 (l.length:Int))).run Tryz.prog W= .ok (.slice (some ⟨W.heap.size,0,none⟩) l.length l.length) (W.alloc (.cells (zs l.length (.int .i64 0)).toArray 3)):=fun W=>Zdb _ _ (by omega) (by omega) W
 have HST:Hid (DvI w (w.alloc (.cells (zs l.length (.int .i64 0)).toArray 3)) w.heap.size l b l.length (List.replicate l.length 0) (.slice none 0 0) 0):=by
  refine⟨by simp, ?_, ?_,HB0.o, ?_,(Zm _ _).alloc (Zh _) _,⟨none,0,[],rfl,RdN.nil _ _,Nm.nil,rfl⟩,⟨fun b hb=>by simp[Value.ownBlock]at hb,fun n c h=>by injection h with _ _ h3;exact h3.symm⟩⟩
  · intro x hx;rw[List.eq_of_mem_replicate hx];decide
  · rw[List.drop_of_length_le (Zh _),List.drop_of_length_le (by simp)];simp[val]
  · have e:nc (List.replicate l.length 0)=zs l.length (.int .i64 0):=(by simp[nc,zs]);rw[e];exact Blk.new _ _ _
 go_enter Tryz.func130,Tryz.ntmps130;go_wp2_with fail
 go_loopw [7,8] (fun rv iv wr=>∃(i R:Nat) (o:List Nat),i≤l.length∧iv= .int .i64 ((i:Int) - 1)∧Hid (DvI w wr w.heap.size l b i o rv R)) (fun _ iv _=>(intOf iv+1).toNat)
 case atStart=>exact⟨l.length,0,_,Zh _,by go_num,HST⟩
 case round=>
  clear HST;obtain⟨i,R,o,hi,rfl,HI⟩:=hrel;obtain⟨wo,hwo⟩:∃wo,wo=wr:=⟨_,rfl⟩;subst hwo;have HBL:=Za HI.o.bel;cases i with
  |zero=>
   have HV:Hid (val L4 o=val L4 l / b∧R=val L4 l % b):=(by have h1:=HI.o.eq;have h2:=HI.o.lt;rw[List.drop_zero,List.drop_zero]at h1;rw[h1,Nat.mul_comm,Nat.mul_add_div HB0.o,Nat.mul_add_mod,Nat.div_eq_of_lt h2,Nat.mod_eq_of_lt h2];exact⟨rfl,rfl⟩);have HRD:=Za (RdN.of_blk HI.o.blk);have HTR:Hid (Calls Tryz.prog 131 #[.slice (some ⟨w.heap.size,0,none⟩) l.length l.length] wo fun e w'=>e= .returned (.slice (some ⟨w.heap.size,0,none⟩) (Z0f o).length l.length)∧wo=w'):=(by have:=Z2k (some ⟨w.heap.size,0,none⟩) l.length o wo HRD.o.1 (by rw[HI.o.len];omega) (by rw[HI.o.len];omega) (by omega) (fun h=>by cases h);rw[HI.o.len]at this;exact this);go_wp2_with fail;refine HTR.o.mono ?_;rintro e w' ⟨rfl,rfl⟩;go_wp2_with fail
   go_ret2
   refine⟨_,_,rfl, ?_, ?_,HBL.o⟩
   · have:=Z1l (c:=l.length) HRD.o HI.o.ds;rw[HV.o.1]at this;exact this
   · have:=HI.o.rest;rw[HV.o.2]at this;exact this
  |succ k=>
   obtain⟨b1,o1,rfl,hb1,hc1⟩:=Z1v (HRl.o.below HBL.o) (by omega);have d1:=hc1 k (by omega);have x1:=HDl.o.getD (by decide) k;rw[HW.o]at x1;have i0:(0:Int)≤(k:Int):=(by omega);have i1:(k:Int)<(l.length:Int):=(by omega);have j0:decide ((0:Int)≤(k:Int)+1 - 1)=true:=decide_eq_true (by omega);have j1:(k:Int)+1 - 1=(k:Int):=(by omega);obtain⟨B2,c2,m,rfl,hm,hmn,hmv⟩:=HI.o.rest;have HM:=Za (show _ from hm.1);have HMD:Hid (Ds L4 m∧val L4 m=R):=⟨hmn.1,hmv⟩;have hml:m.length≤3*k':=(by refine Lim.len4 hmn (k:=k') ?_;rw[hmv];exact Nat.lt_trans HI.o.lt HLB.o);have HMB:Hid (B2=none→c2=0):=fun e=>HI.o.fr.2 m.length c2 (by rw[e]);clear hm hmn hmv hc1;obtain⟨x,hx⟩:∃x,l.getD k 0=x:=⟨_,rfl⟩;have HX:=Za hx;rw[hx]at d1 x1;clear hx;have HOA:Hid ((wo.alloc (.cells #[.int .i64 (x:Int)] 3)).ownsRow wo.heap.size 3 1 (.slice (some ⟨wo.heap.size,0,none⟩) 1 1) 1 (nc [x])):=(by refine⟨rfl,.inr ⟨wo.heap.size,1, #[.int .i64 (x:Int)],rfl,Zh _,heap_alloc_new wo _,Zh _,by decide,rfl,rfl⟩⟩);have HMA:Hid (Rd (wo.alloc (.cells #[.int .i64 (x:Int)] 3)) B2 (nc m)):=HM.o.below ((Zm _ _).alloc (Zh _) _);go_wp2_with (at_builtin;refine app_lim rfl _ _ rfl wo.heap.size _ _ _ rfl HOA.o B2 c2 m rfl HMA.o HMB.o (by omega) (by simp) ?_;intro v1 w5 hown2 hgrow2);obtain⟨A5,c5,rfl⟩:=Z08 hown2;have hHO:w5.ownsRow wo.heap.size 3 1 (.slice A5 (x::m).length c5) (x::m).length (nc (x::m)):=(by have e:nc (x::m)=nc [x]++nc m:=rfl;rw[e,show(x::m).length=1+m.length by simp;omega];exact hown2);have HB5:Hid (Below wo.heap.size wo w5):=Below.grown ((Zm _ _).alloc (Zh _) _) hgrow2 (by simp) (fun b hb=>by injection hb with hb;exact Nat.le_of_eq hb);have HTR:Hid (Calls Tryz.prog 131 #[.slice A5 (1+m.length) c5] w5 fun e w'=>e= .returned (.slice A5 (Z0f (x::m)).length c5)∧w5=w'):=(by have:=Z2k A5 c5 (x::m) w5 (Rd.of_own hHO) (by simp;omega) (Z13 hHO).1 (Z13 hHO).2.1 (Z13 hHO).2.2;rw[show(x::m).length=1+m.length by simp;omega]at this;exact this);obtain⟨rN,hrN⟩:∃rN,rN=x+L4*R:=⟨_,rfl⟩;have HRN:=Za hrN;have HNX:Hid (NxtR wo rN (.slice A5 (Z0f (x::m)).length c5) w5):=(by refine⟨?_,⟨fun b hb=>(hHO.lt b (by cases A5<;>exact hb)).1,fun n c h=>by injection h with h1 h2 h3;subst h3;exact(Z13 hHO).2.2 h1⟩,HB5.o⟩;have:=Z1l (c:=c5) (RdN.of_own hHO) (fun d hd=>(List.mem_cons.1 hd).elim (fun e=>by rw[e,HW.o];exact x1) (fun e=>HMD.o.1 d e):Ds L4 (x::m));rw[show val L4 (x::m)=rN by rw[hrN,val,HMD.o.2]]at this;exact this);have hrb:rN<b*L4:=(by have:=dv_lt (a:=l) (i:=k) (by decide:0<L4) HDl.o HI.o.lt;rw[HX.o]at this;omega);have HRB:=Za hrb;have HRL:Hid (Lim (k'+1) rN):=(by show rN<W32 ^ (k'+1);rw[Nat.pow_succ];exact Nat.lt_of_lt_of_le hrb (Nat.mul_le_mul (Nat.le_of_lt HLB.o) (by decide)));clear hHO hown2 hgrow2 hrN hrb HOA HMA HM HMD hml HMB;go_wp2_with fail;refine HTR.o.mono ?_;rintro e w' ⟨rfl,rfl⟩;clear HTR;generalize Value.slice A5 (Z0f (x::m)).length c5=rv at*
   go_upto_block 2 with(fail)
   go_cut [10] (fun v wx=>∃d:Nat,v= .int .i64 (d:Int)∧d<10000∧Hid (DI b rN d d)∧Hid (Below w5.heap.size w5 wx))
   case first=>
    have HST:Hid (DI b rN 0 9999):=DI.start (B:=L4) (by decide) HRB.o;go_wp2_with fail
    go_loopw [10,11,12] (fun lv hv mv wi=>∃lo hi:Nat,lv= .int .i64 (lo:Int)∧hv= .int .i64 (hi:Int)∧lo≤hi∧hi<10000∧Hid (DI b rN lo hi)∧Hid (Below w5.heap.size w5 wi)) (fun lv hv mv wi=>(intOf hv).toNat - (intOf lv).toNat)
    case atStart=>exact⟨0,9999,rfl,rfl,by omega,by omega,HST,Zm _ _⟩
    case round=>
     clear HST;obtain⟨lo,hi2,rfl,rfl,hlh,hh,HD,HBI⟩:=hrel;by_cases hlt:lo<hi2
     case neg=>
      have he:lo=hi2:=(by omega);subst he;have hd0:decide (lo<lo)=false:=(by simp);go_wp2_with fail;go_meet
      case rel=>exact⟨lo,rfl,hh,HD,HBI⟩
     have hd1:decide (lo<hi2)=true:=(by simpa using hlt);obtain⟨md,hmd⟩:∃md,md=(lo+hi2+1) / 2:=⟨_,rfl⟩;obtain⟨m1,m2⟩:=mid_lt hlt;rw[←hmd]at m1 m2;have W1:IntKind.i64.wrap ((lo:Int)+(hi2:Int))=(lo:Int)+(hi2:Int):=IntWalk.i64_in _ (by omega);have W2:IntKind.i64.wrap ((lo:Int)+(hi2:Int)+1)=(lo:Int)+(hi2:Int)+1:=IntWalk.i64_in _ (by omega);have W3:IntKind.i64.wrap (((lo:Int)+(hi2:Int)+1).tdiv 2)=(md:Int):=(by rw[Int.tdiv_eq_ediv_of_nonneg (by omega),show((lo:Int)+(hi2:Int)+1) / 2=(md:Int) by omega];exact IntWalk.i64_in _ (by omega));have W4:IntKind.i64.wrap ((md:Int) - 1)=((md - 1:Nat):Int):=(by rw[show(md:Int) - 1=((md - 1:Nat):Int) by omega];exact IntWalk.i64_in _ (by omega));have HSM:=Za (Z6g vb b md wr (HVB.o.below (HBL.o.trans (HB5.o.mono HBL.o.size)|>.trans (HBI.o.mono (Nat.le_trans HBL.o.size HB5.o.size)))) k' HLB.o (by omega) (by omega));have HRV:=Za (HNX.o.1.below HBI.o);clear hmd;go_wp2_with fail;refine HSM.o.mono ?_;rintro e w6 ⟨v6,rfl,hv6,_,hb6⟩;have HLM:Hid (Lim (k'+1) (b*md)):=(by show b*md<W32 ^ (k'+1);rw[Nat.pow_succ];have:W32=4294967296:=rfl;refine Nat.lt_of_le_of_lt (Nat.mul_le_mul (Nat.le_of_lt HLB.o) (show md≤W32 - 1 by omega)) ?_;exact Nat.mul_lt_mul_of_pos_left (by omega) (Nat.pow_pos (by omega)));have HCP:=Za (Z5a v6 rv (b*md) rN w6 hv6 (HRV.o.below hb6) (k'+1) HLM.o HRL.o (by omega));have HB6:=Za (HBI.o.trans (hb6.mono HBI.o.size));clear HSM HRV hv6 hb6 HLM HBI;unfold Z45 at HCP;by_cases hle:b*md≤rN
     ·
      have HDN:=Za (HD.o.low hle)
      have hr0:decide (Z27 (b*md) rN≤0)=true:=by
       rcases Nat.lt_or_ge (b*md) rN with q|q
       · rw[Z1u q];rfl
       · rw[show b*md=rN by omega,Z2v];rfl
      generalize Z27 (b*md) rN=cr at*;clear hle HD;go_wp2_with fail;refine HCP.o.mono ?_;rintro e w7 ⟨rfl,hq7⟩;have HB7:=Za (HB6.o.trans (hq7.below.mono HB6.o.size));clear hq7 HB6 HCP;go_wp2_with fail;go_roundw
      case rel=>exact⟨md,hi2,rfl,rfl,by omega,hh,HDN,HB7⟩
      case measure=>simp[intOf];omega
     ·
      have HDN:=Za (HD.o.high (by omega) hle);have hr0:decide (Z27 (b*md) rN≤0)=false:=(by rw[Z28 (by omega)];rfl);generalize Z27 (b*md) rN=cr at*;clear hle HD;go_wp2_with fail;refine HCP.o.mono ?_;rintro e w7 ⟨rfl,hq7⟩;have HB7:=Za (HB6.o.trans (hq7.below.mono HB6.o.size));clear hq7 HB6 HCP;go_wp2_with fail;go_roundw
      case rel=>exact⟨lo,md - 1,rfl,by go_num,by omega,by omega,HDN,HB7⟩
      case measure=>simp[intOf];omega
   case rest=>
    obtain⟨d,rfl,hd,HDD,HBC⟩:=hcut;have HDE:=Za HDD.o.end;have HBC2:Hid (Below wo.heap.size wo wc):=HB5.o.trans (HBC.o.mono HB5.o.size);have hgl:=HI.o.blk.lt;have HBLK:Hid (Blk wc w.heap.size 3 (nc o)):=(HBC2.o.block _ hgl).trans HI.o.blk;obtain⟨e1,f1⟩:wc.cell? ⟨w.heap.size,k,none⟩=some (.int .i64 (o.getD k 0:Nat))∧wc.frozen? ⟨w.heap.size,k,none⟩=false:=⟨by rw[HBLK.o.cell,Zd1 _ _ (by rw[HI.o.len];omega)],HBLK.o.frozen _⟩;obtain⟨w8,hw8⟩:∃w8,w8=wc.setCell ⟨w.heap.size,k,none⟩ (.int .i64 (d:Int)):=⟨_,rfl⟩;have HW8:=Za hw8;have HSZ:Hid (w8.heap.size=wc.heap.size):=(by show _=_;rw[hw8];simp[World.setCell]);have HRV:Hid (Z05 w8 rv rN):=(by rw[hw8];exact Z05.set (HNX.o.1.below HBC.o) (fun e=>by have:=HNX.o.2.1.1 _ e;omega) _);have HB8:Hid (Below w.heap.size w w8):=(by rw[hw8];exact(HBL.o.trans (HBC2.o.mono HBL.o.size)).setCell (p:=⟨w.heap.size,k,none⟩) (Zh _) _);have HSM:=Za (Z6g vb b d w8 (HVB.o.below HB8.o) k' HLB.o (by omega) hd);have HLS:Hid (∀v W,Z05 W v (b*d)→Z05 W rv rN→Calls Tryz.prog 134 #[rv,v] W (LesR rN (b*d) W)):=fun v W h1 h2=>Z5r rv v rN (b*d) W h2 h1 (k'+1) HRL.o HDD.o.1 (by omega);generalize o.getD k 0=od at*;clear hw8 HBLK;go_wp2_with fail;rw[←HW8.o];refine HSM.o.mono ?_;rintro e w9 ⟨v9,rfl,hv9,_,hb9⟩;have HB9:=Za hb9;have HCL:=Za (HLS.o v9 w9 hv9 (HRV.o.below hb9));clear HSM HLS hv9 hb9;go_wp2_with fail;refine HCL.o.mono ?_;rintro e w10 ⟨v10,rfl,hv10,hf10,hb10⟩;have HNW:Hid (DvI w w10 w.heap.size l b k (o.set k d) v10 (rN % b)):=(by have hv:Z05 w10 v10 (rN % b):=(by rw[←HDE.o.2];exact hv10);refine HI.o.step (wx:=wc) (by omega) rfl (by rw[HX.o,HRN.o]) (by rw[HW.o];exact hd) HDE.o.1 HBC2.o ?_ hv (hf10.mono (by have:=HB9.o.size;have:=HSZ.o;omega));rw[←HW8.o];exact HB9.o.trans (hb10.mono HB9.o.size));clear hv10 hf10 hb10 HI;go_wp2_with fail;go_roundw
    case rel=>exact⟨k,rN % b,_,by omega,by go_num,HNW⟩
    case measure=>simp[intOf]
def LimR (n:Nat)(w:World)(e:Ending)(w':World):Prop:=∃v,e= .returned v∧Z05 w' v n∧Below w.heap.size w w'
theorem Z3b {w:World}{v:Value}{n:Nat}(h:Z05 w v n):∃A c L,v= .slice A L c∧(L=0↔n=0):=by
 obtain⟨A,c,l,rfl,_,hn,rfl⟩:=h;refine⟨A,c,l.length,rfl, ?_⟩;rw[hn.zero_iff (by decide)];exact⟨fun e=>Zk e,fun e=>by rw[e];rfl⟩
theorem Z5s (va vb:Value)(a b:Nat)(w:World)(h:Z05 w va a)(g:Z05 w vb b)(k:Nat)(hk:Lim k a)(gk:Lim k b)(hk2:k≤100000000):
  Calls Tryz.prog 128 #[va,vb] w (LimR (Nat.gcd a b) w):=by
 have H0:Hid (Z05 w va a∧Z05 w vb b∧Lim k a∧Lim k b):=⟨h,g,hk,gk⟩;obtain⟨G,hG⟩:∃G,Nat.gcd a b=G:=⟨_,rfl⟩;rw[hG];have HG:=Za hG;clear h g hk gk hG;go_enter Tryz.func128,Tryz.ntmps128
 go_wp2
 go_loopg [0,1] b (fun y v0 v1 wr=>∃x:Nat,Hid (Z05 wr v0 x∧Z05 wr v1 y∧Lim k x∧Lim k y∧Nat.gcd x y=G∧Below w.heap.size w wr))
 case atStart=>exact⟨a,H0.o.1,H0.o.2.1,H0.o.2.2.1,H0.o.2.2.2,HG.o,Zm _ _⟩
 case round=>
  clear H0 HG;obtain⟨x,HI⟩:=hrel;obtain⟨y,hy⟩:∃y,y=gk:=⟨_,rfl⟩;subst hy;obtain⟨A,c,L,e1,_⟩:=Z3b HI.o.1;obtain⟨B,d,M,e2,hM⟩:=Z3b HI.o.2.1;subst e1 e2;by_cases hy:y=0
  ·
   have hM0:M=0:=hM.2 hy;subst hM0;have HX:Hid (x=G):=(by show _=_;have:=HI.o.2.2.2.2.1;rw[hy,Nat.gcd_zero_right]at this;exact this);clear hM hy
   go_wp2
   go_ret;exact⟨_,rfl,by rw[←HX.o];exact HI.o.1,HI.o.2.2.2.2.2⟩
  have hMp:0<M:=by
   rcases Nat.eq_zero_or_pos M with e|e
   · exact absurd (hM.1 e) hy
   · exact e
  clear hM;have HB0:=Za HI.o.2.2.2.2.2;have HDV:=Za (Z3v _ _ x y wr HI.o.1 HI.o.2.1 (by omega) k k HI.o.2.2.1 HI.o.2.2.2.1 hk2 hk2)
  have HTL:Hid (∀W vr,Z05 W vr (x % y)→Below wr.heap.size wr W→Z05 W (.slice B M d) y∧Z05 W vr (x % y)∧Lim k y∧Lim k (x % y)∧Nat.gcd y (x % y)=G∧Below w.heap.size w W):=fun W vr hv hW=>
   ⟨HI.o.2.1.below hW,hv,HI.o.2.2.2.1,HI.o.2.2.1.le (Nat.mod_le _ _),by rw[Nat.gcd_comm,←Nat.gcd_rec,Nat.gcd_comm];exact HI.o.2.2.2.2.1,HB0.o.trans (hW.mono HB0.o.size)⟩
  have HML:Hid (x % y<y):=Nat.mod_lt _ (by omega);go_wp2_with fail;refine HDV.o.mono ?_;rintro e w2 ⟨v1,v2,rfl,_,hv2,hb2⟩;have HN:=Za (HTL.o w2 v2 hv2 hb2);clear hv2 hb2 HTL HDV HB0;go_wp2_with fail
  go_roundg (x % y)
  case measure=>exact HML.o
  case rel=>exact⟨y,HN.o⟩
end Go.Proofs.YtcemlhbfemenpaaGreatDoor
