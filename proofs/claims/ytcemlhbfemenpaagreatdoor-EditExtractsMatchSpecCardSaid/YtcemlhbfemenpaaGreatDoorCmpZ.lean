/- Several texts laid into one: The contract of cmp.Or at two ints; The contract of cmp.Compare at ints; The contract of cmp.Or at ints, however many; The contract of edit.compare; The contract of clock.IsRate; -/
import Derived.Test.YtcemlhbfemenpaaGreatDoorEdtZ
import Derived.Test.YtcemlhbfemenpaaGreatDoorNumB
import Derived.Test.YtcemlhbfemenpaaGreatDoorShSmall
import Derived.Deep.DrawnRows
set_option maxHeartbeats 8000000
set_option maxRecDepth 100000
namespace Go.Proofs.YtcemlhbfemenpaaGreatDoor
open Go.RowKit Go.Dw
def Z55 (x y:Int):Int:=if x<y then -1 else if y<x then 1 else 0
def orI (x y:Int):Int:=if x=0 then y else x
theorem Z29 (x y:Int)(w:World):
  Calls Tryz.prog 58 #[.int .i64 x,.int .i64 y] w fun e w'=>e= .returned (.int .i64 (Z55 x y))∧w=w':=by
 by_cases h1:x<y
 ·
  go_enter Tryz.func58,Tryz.ntmps58
  go_wp2
  go_ret;exact⟨Z02 (by simp[Z55,h1]),rfl⟩
 ·
  by_cases h2:y<x
  ·
   go_enter Tryz.func58,Tryz.ntmps58
   go_wp2
   go_ret;exact⟨Z02 (by simp[Z55,h1,h2]),rfl⟩
  ·
   go_enter Tryz.func58,Tryz.ntmps58
   go_wp2
   go_ret;exact⟨Z02 (by unfold Z55;rw[if_neg (by omega),if_neg (by omega)]),rfl⟩
def orL:List Int→Int
 | []=>0
 |x::t=>orI x (orL t)
theorem Zam:∀(xs:List Int) (k:Nat) (h:k<xs.length),(∀j (hj:j<k),xs[j]'(by omega)=0)→xs[k]≠0→orL xs=xs[k]
 | [],_,h,_,_=>by simp at h
 |x::t,0,_,_,hx=>by simp at hx;simp[orL,orI,hx]
 |x::t,k+1,h,hz,hx=>by have h0:x=0:=hz 0 (by omega);have:=Zam t k (by simpa using h) (fun j hj=>by have:=hz (j+1) (by omega);simpa using this) (by simpa using hx);simp[orL,orI,h0,this]
theorem Zan:∀(xs:List Int),(∀j (hj:j<xs.length),xs[j]=0)→orL xs=0
 | [],_=>rfl
 |x::t,hz=>by have h0:x=0:=hz 0 (by simp);have:=Zan t (fun j hj=>by have:=hz (j+1) (by simpa using hj);simpa using this);simp[orL,orI,h0,this]
theorem or_any (b off c:Nat)(xs:List Int)(w:World)(hn:xs.length≤1000)(h:∀j (hj:j<xs.length),w.cell? ⟨b,off+j,none⟩=some (.int .i64 xs[j])):
  Calls Tryz.prog 57 #[.slice (some ⟨b,off,none⟩) xs.length c] w fun e w'=>e= .returned (.int .i64 (orL xs))∧w=w':=by
 have H:=Za h;clear h;go_enter Tryz.func57,Tryz.ntmps57
 go_wp2
 go_loop [5,8] (fun _ i=>∃k:Nat,k≤xs.length∧i= .int .i64 k∧Hid (∀j (hj:j<xs.length),j<k→xs[j]=0)) (fun _ i=>xs.length - (intOf i).toNat)
 case atStart=>exact⟨0,by omega,rfl,fun j _ hj=>by omega⟩
 case round=>
  obtain⟨k,hk,rfl,hz⟩:=hrel;by_cases hlt:k<xs.length
  ·
   have hc:=H.o k hlt;by_cases e:xs[k]=0
   ·
    have e':(xs[k]==0)=true:=(by simpa using e);have E:=Za e;clear e
    go_wp2
    go_round
    case rel=>exact⟨k+1,by omega,by go_num,fun j hj hjk=>by
     by_cases hjk2:j=k
     · subst hjk2;exact E.o
     · exact hz.o j hj (by omega)⟩
    case measure=>simp[intOf];omega
   ·
    have e':(xs[k]==0)=false:=by simpa using e
    go_wp2
    go_ret;exact⟨Z02 (by rw[Zam xs k hlt (fun j hj=>hz.o j (by omega) hj) e]),rfl⟩
  ·
   go_wp2
   go_ret;exact⟨Z02 (by rw[Zan xs (fun j hj=>hz.o j hj (by omega))]),rfl⟩
attribute [local go_sem ↓] Go.wp_at_zero Go.wp_at_succ
theorem cmpZ_eq (x y:Int):Z55 x y=Z1x x y:=rfl
theorem Z6m (a b:ByteArray)(w:World):Calls Tryz.prog 59 #[.string a,.string b] w fun e w'=>e= .returned (.int .i64 (Z71 a b))∧w=w':=
 (Any.strings_Compare Tryz.lays106 a b w).mono fun _ _ h=>⟨h.1,h.2.symm⟩
theorem Ze2:∀l:List Int,orL l=orZ l
 | []=>rfl
 |x::l=>by show orI x (orL l)=_;rw[Ze2 l];rfl
theorem Z9h (x y:CliM)(w:World):
  Calls Tryz.prog 33 #[x.v,y.v] w fun e w'=>e= .returned (.int .i64 (Z14 x.x y.x))∧Below w.heap.size w w':=by
 obtain⟨xm,xc,xf,xt,xa,xl,⟨xA,xk,xe⟩⟩:=x;obtain⟨ym,yc,yf,yt,ya,yl,⟨yA,yk,ye⟩⟩:=y;unfold CliM.v;simp only[Slc.v];obtain⟨r,hr⟩:∃r,orL [Z55 xt yt,Z55 xa ya,Z71 xm ym,Z55 xc yc,Z55 xf yf,Z55 xl yl]=r:=⟨_,rfl⟩;have HR:Hid (Z14 (CliM.x ⟨xm,xc,xf,xt,xa,xl,⟨xA,xk,xe⟩⟩) (CliM.x ⟨ym,yc,yf,yt,ya,yl,⟨yA,yk,ye⟩⟩)=r):=by show _=_;rw[←hr,Ze2];rfl
 have H1:=Za (fun W=>Z29 xt yt W);have H2:=Za (fun W=>Z29 xa ya W);have H3:=Za (fun W=>Z6m xm ym W);have H4:=Za (fun W=>Z29 xc yc W);have H5:=Za (fun W=>Z29 xf yf W);have H6:=Za (fun W=>Z29 xl yl W);obtain⟨r1,h1⟩:∃v,Z55 xt yt=v:=⟨_,rfl⟩;obtain⟨r2,h2⟩:∃v,Z55 xa ya=v:=⟨_,rfl⟩;obtain⟨r3,h3⟩:∃v,Z71 xm ym=v:=⟨_,rfl⟩;obtain⟨r4,h4⟩:∃v,Z55 xc yc=v:=⟨_,rfl⟩;obtain⟨r5,h5⟩:∃v,Z55 xf yf=v:=⟨_,rfl⟩;obtain⟨r6,h6⟩:∃v,Z55 xl yl=v:=⟨_,rfl⟩;rw[h1,h2,h3,h4,h5,h6]at hr;simp only[h1]at H1;simp only[h2]at H2;simp only[h3]at H3;simp only[h4]at H4;simp only[h5]at H5;simp only[h6]at H6;have HO:Hid (∀(W:World) (b:Nat),Blk W b 3 [.int .i64 r1,.int .i64 r2,.int .i64 r3,.int .i64 r4,.int .i64 r5,.int .i64 r6]→Calls Tryz.prog 57 #[.slice (some ⟨b,0,none⟩) 6 6] W fun e w'=>e= .returned (.int .i64 r)∧W=w'):=fun W b hb=>by rw[←hr];refine or_any b 0 6 [r1,r2,r3,r4,r5,r6] W (by simp) fun j hj=> ?_;simp only[List.length_cons,List.length_nil]at hj;rw[Nat.zero_add,hb.cell j];rcases(by omega:j=0∨j=1∨j=2∨j=3∨j=4∨j=5)with rfl|rfl|rfl|rfl|rfl|rfl<;>rfl
 generalize (xe.length:Nat)=xn at*;generalize (ye.length:Nat)=yn at*;obtain⟨w0,hw0⟩:∃w0,w0=(w.alloc (.cells #[.string xm,.int .i64 xc,.int .i64 xf,.int .i64 xt,.int .i64 xa,.int .i64 xl,.slice xA xn xk] 39)).alloc (.cells #[.string ym,.int .i64 yc,.int .i64 yf,.int .i64 yt,.int .i64 ya,.int .i64 yl,.slice yA yn yk] 39):=⟨_,rfl⟩;have HB0:Hid (Below w.heap.size w w0):=by rw[hw0];exact((Zm _ _).alloc (Zh _) _).alloc (by simp) _
 have HK:Hid (Blk w0 w.heap.size 39 [.string xm,.int .i64 xc,.int .i64 xf,.int .i64 xt,.int .i64 xa,.int .i64 xl,.slice xA xn xk]∧Blk w0 (w.heap.size+1) 39 [.string ym,.int .i64 yc,.int .i64 yf,.int .i64 yt,.int .i64 ya,.int .i64 yl,.slice yA yn yk]):=by have k1:=Blk.new w 39 [.string xm,.int .i64 xc,.int .i64 xf,.int .i64 xt,.int .i64 xa,.int .i64 xl,.slice xA xn xk];have k2:=Blk.new (w.alloc (.cells #[.string xm,.int .i64 xc,.int .i64 xf,.int .i64 xt,.int .i64 xa,.int .i64 xl,.slice xA xn xk] 39)) 39 [.string ym,.int .i64 yc,.int .i64 yf,.int .i64 yt,.int .i64 ya,.int .i64 yl,.slice yA yn yk];have e2:(w.alloc (.cells #[.string xm,.int .i64 xc,.int .i64 xf,.int .i64 xt,.int .i64 xa,.int .i64 xl,.slice xA xn xk] 39)).heap.size=w.heap.size+1:=(by simp);rw[e2]at k2;rw[hw0];exact⟨k1.same (Same.of_below (S:=fun _=>True) ((Gq.refl _).alloc _)) trivial,k2⟩
 have HS:Hid (∀W,Gq w0 W→W.cell? ⟨w.heap.size,0,none⟩=some (.string xm)∧W.cell? ⟨w.heap.size,1,none⟩=some (.int .i64 xc)∧W.cell? ⟨w.heap.size,2,none⟩=some (.int .i64 xf)∧W.cell? ⟨w.heap.size,3,none⟩=some (.int .i64 xt)∧W.cell? ⟨w.heap.size,4,none⟩=some (.int .i64 xa)∧W.cell? ⟨w.heap.size,5,none⟩=some (.int .i64 xl)∧
   W.cell? ⟨w.heap.size+1,0,none⟩=some (.string ym)∧W.cell? ⟨w.heap.size+1,1,none⟩=some (.int .i64 yc)∧W.cell? ⟨w.heap.size+1,2,none⟩=some (.int .i64 yf)∧W.cell? ⟨w.heap.size+1,3,none⟩=some (.int .i64 yt)∧W.cell? ⟨w.heap.size+1,4,none⟩=some (.int .i64 ya)∧W.cell? ⟨w.heap.size+1,5,none⟩=some (.int .i64 yl)∧Gq w0 W):=fun W hW=>by
  have k1:=HK.o.1.same (Same.of_below (S:=fun _=>True) hW) trivial;have k2:=HK.o.2.same (Same.of_below (S:=fun _=>True) hW) trivial;exact⟨k1.cell 0,k1.cell 1,k1.cell 2,k1.cell 3,k1.cell 4,k1.cell 5,k2.cell 0,k2.cell 1,k2.cell 2,k2.cell 3,k2.cell 4,k2.cell 5,hW⟩
 have hBR:Gq w0 w0:=Gq.refl _;have hBD:Gq w0 w0.drew:=(Gq.refl _).drew;have HW0:=Za hw0;clear hw0 h1 h2 h3 h4 h5 h6 hr;go_enter Tryz.func33,Tryz.ntmps33;go_wp2_with fail;rw[←HW0.o]
 go_region_held3 (fun W=>W.cell? ⟨w.heap.size,0,none⟩=some (.string xm)∧W.cell? ⟨w.heap.size,1,none⟩=some (.int .i64 xc)∧W.cell? ⟨w.heap.size,2,none⟩=some (.int .i64 xf)∧W.cell? ⟨w.heap.size,3,none⟩=some (.int .i64 xt)∧W.cell? ⟨w.heap.size,4,none⟩=some (.int .i64 xa)∧W.cell? ⟨w.heap.size,5,none⟩=some (.int .i64 xl)∧
   W.cell? ⟨w.heap.size+1,0,none⟩=some (.string ym)∧W.cell? ⟨w.heap.size+1,1,none⟩=some (.int .i64 yc)∧W.cell? ⟨w.heap.size+1,2,none⟩=some (.int .i64 yf)∧W.cell? ⟨w.heap.size+1,3,none⟩=some (.int .i64 yt)∧W.cell? ⟨w.heap.size+1,4,none⟩=some (.int .i64 ya)∧W.cell? ⟨w.heap.size+1,5,none⟩=some (.int .i64 yl)∧Gq w0 W)
  (first|exact HS.o _ hBD|exact HS.o _ hBR|exact HS.o _ (Gq.alloc hBD _)|exact HS.o _ (Gq.alloc hBR _)|exact HS.o _ (Gq.drew (Gq.alloc hBR _)))
  (first|(go_at_call 58;with_reducible refine(H1.o _).mono ?_;rintro e w' ⟨rfl,rfl⟩)|(go_at_call 58;with_reducible refine(H2.o _).mono ?_;rintro e w' ⟨rfl,rfl⟩)|(go_at_call 59;with_reducible refine(H3.o _).mono ?_;rintro e w' ⟨rfl,rfl⟩)|(go_at_call 58;with_reducible refine(H4.o _).mono ?_;rintro e w' ⟨rfl,rfl⟩)|(go_at_call 58;with_reducible refine(H5.o _).mono ?_;rintro e w' ⟨rfl,rfl⟩)|(go_at_call 58;with_reducible refine(H6.o _).mono ?_;rintro e w' ⟨rfl,rfl⟩)|(go_at_call 57;refine(HO.o _ _ (by first|exact Blk.new w0 _ _|exact Blk.new w0.drew _ _)).mono ?_;rintro e w' ⟨rfl,rfl⟩))
 all_goals
  go_wp2_with fail;go_ret;exact⟨by rw[HR.o];rfl,HB0.o.trans (Below.mono (by first|exact(Gq.alloc hBR _)|exact(Gq.alloc hBR _).drew|exact(Gq.alloc hBD _)) HB0.o.size)⟩
end Go.Proofs.YtcemlhbfemenpaaGreatDoor
namespace Go.Proofs.YtcemlhbfemenpaaGreatDoor
open Go.RowKit Go.Dw
def isRt (n:Int):Bool:=decide (1≤n) && decide (n≤1000000)
theorem Zao (n:Int):isRt n=true↔1≤n∧n≤1000000:=by simp[isRt]
theorem Zbw (n:Int)(w:World):Calls Tryz.prog 31 #[.int .i64 n] w fun e w'=>e= .returned (.bool (isRt n))∧w=w':=by
 have HR:Hid (isRt n=(decide (1≤n) && decide (n≤1000000))):=rfl;by_cases h1:1≤n
 · have e1:decide (1≤n)=true:=decide_eq_true h1;go_enter Tryz.func31,Tryz.ntmps31;go_wp2_with fail;go_ret;exact⟨by rw[HR.o,e1];rfl,rfl⟩
 · have e1:decide (1≤n)=false:=decide_eq_false h1;go_enter Tryz.func31,Tryz.ntmps31;go_wp2_with fail;go_ret;exact⟨by rw[HR.o,e1];rfl,rfl⟩
end Go.Proofs.YtcemlhbfemenpaaGreatDoor
