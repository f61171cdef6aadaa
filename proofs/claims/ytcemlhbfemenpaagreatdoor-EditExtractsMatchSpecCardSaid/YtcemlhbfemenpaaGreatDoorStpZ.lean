/- Several texts laid into one: Plain: Join and Mix: what they give; an edit, or its fault; Steps of a history, in plain Lean; Steps that are done are taken back by the steps that are turned: plain Lean; -/
import Derived.Test.YtcemlhbfemenpaaGreatDoorSrtY
import Derived.Test.YtcemlhbfemenpaaGreatDoorMisZ
namespace Go.Dw
open Go.RowKit
def e0:Edt:=⟨0,0,[]⟩
def twoF (nm:ByteArray→Bool)(mx:Int)(al:Bool)(a b:Edt):Int:=
 if Z0y nm mx a≠0 then Z0y nm mx a else if Z0y nm mx b≠0 then Z0y nm mx b else if a.rate≠b.rate∨(al=false∧a.tracks≠b.tracks)then 6 else 0
def mkE (nm:ByteArray→Bool)(mx:Int)(e:Edt):Edt×Int:=if Z0y nm mx e≠0 then(e0,Z0y nm mx e)else(e,0)
def Z4h (k:Int)(c:Cli):Cli:=⟨c.m,c.ch,c.fr,c.tr,c.at_+k,c.ln,c.e⟩
def shfC (at_ by_:Int)(c:Cli):Cli:=if at_≤c.at_ then Z4h by_ c else c
def joinE (nm:ByteArray→Bool)(mx:Int)(a b:Edt)(n:Int):Edt×Int:=
 if twoF nm mx false a b≠0 then(e0,twoF nm mx false a b)else if n<0∨endF a.cs<n then(e0,1)else mkE nm mx ⟨a.rate,a.tracks,Z34 (a.cs++b.cs.map (Z4h (endF a.cs - n)))⟩
def mixE (nm:ByteArray→Bool)(mx:Int)(a b:Edt):Edt×Int:=
 if twoF nm mx false a b≠0 then(e0,twoF nm mx false a b)else mkE nm mx ⟨a.rate,a.tracks,Z34 (a.cs++b.cs)⟩
theorem Z7h {nm:ByteArray→Bool}{mx:Int}{e:Edt}(h:Z0y nm mx e≠0):mkE nm mx e=(e0,Z0y nm mx e):=by unfold mkE;rw[if_pos h]
theorem Zec:Srt e0.cs:=fun i h0 hi=>by simp[e0]at hi
theorem mkE_srt {nm:ByteArray→Bool}{mx:Int}{r t:Int}{l:List Cli}:Srt (mkE nm mx ⟨r,t,Z34 l⟩).1.cs:=by
 unfold mkE
 split
 · exact Zec
 · exact srtC_srt l
instance:DecidableEq Pnt:=fun a b=>if h:a.at_=b.at_∧a.n=b.n∧a.d=b.d then .isTrue (by
 obtain⟨a1,a2,a3⟩:=a;obtain⟨b1,b2,b3⟩:=b;obtain⟨h1,h2,h3⟩:=h;cases h1;cases h2;cases h3;rfl)else .isFalse (fun e=>h (by subst e;exact⟨rfl,rfl,rfl⟩))
instance:DecidableEq Cli:=fun a b=>if h:a.m=b.m∧a.ch=b.ch∧a.fr=b.fr∧a.tr=b.tr∧a.at_=b.at_∧a.ln=b.ln∧a.e=b.e then .isTrue (by
 obtain⟨a1,a2,a3,a4,a5,a6,a7⟩:=a;obtain⟨b1,b2,b3,b4,b5,b6,b7⟩:=b;obtain⟨h1,h2,h3,h4,h5,h6,h7⟩:=h;cases h1;cases h2;cases h3;cases h4;cases h5;cases h6;cases h7;rfl)else .isFalse (fun e=>h (by subst e;exact⟨rfl,rfl,rfl,rfl,rfl,rfl,rfl⟩))
structure Stp where
 kd:Int
 cs:List Cli
 at_:Int
 by_:Int
def stpF (s:Stp):Int:=if s.kd=1∨s.kd=2 then(if s.at_=0∧s.by_=0 then 0 else 3)else if s.kd=3 then(if 0<s.cs.length then 3 else 0)else 4
def rngF (s:Stp):Int:=if(0≤s.at_∧s.at_≤100000)∧(-100000≤s.by_∧s.by_≤100000)∧(0≤s.at_+s.by_∧s.at_+s.by_≤100000)then 0 else 1
def stF (s:Stp):Int:=if stpF s≠0 then stpF s else if s.kd=3 then rngF s else 0
def dStp:Stp:=⟨0,[],0,0⟩
def stpsF (l:List Stp):Int:=if 200<l.length then 2 else Z1c (fun i=>stF (l.getD i dStp)) l.length
def turn (s:Stp):Stp:=if s.kd=1 then⟨2,s.cs,s.at_,s.by_⟩else if s.kd=2 then⟨1,s.cs,s.at_,s.by_⟩else⟨s.kd,s.cs,s.at_+s.by_, -s.by_⟩
def turnedF (l:List Stp):List Stp×Int:=if stpsF l≠0 then([],stpsF l)else(l.reverse.map turn,0)
def folS (a:Int)(s:Stp):Int:=if s.kd=3∧s.at_≤a then a+s.by_ else a
def followF (l:List Stp)(at_:Int):Int×Int:=
 if stpsF l≠0 then(0,stpsF l)else if ¬(0≤at_∧at_≤100000)then(0,1)else if ¬(0≤l.foldl folS at_∧l.foldl folS at_≤100000)then(0,1)else(l.foldl folS at_,0)
section
variable {α:Type}
def remF (f:α→Cli)(c:Cli):List α→Option (List α)
 | []=>none
 |x::l=>if f x=c then some l else(remF f c l).map (x:: ·)
def remsF (f:α→Cli):List Cli→List α→Option (List α)
 | [],l=>some l
 |c::cs,l=>match remF f c l with|some m=>remsF f cs m|none=>none
end
section
variable {α:Type}
end
def clsh (s:Stp)(c:Cli):Bool:=decide (s.by_<0∧s.at_+s.by_≤c.at_∧c.at_<s.at_)
def Zed (l:List Cli)(s:Stp):List Cli×Int:=
 if stpF s≠0 then([],stpF s)
 else if s.kd=1 then(Z34 (l++s.cs),0)
 else if s.kd=2 then(match remsF id s.cs l with|some m=>(m,0)|none=>([],9))
 else if rngF s≠0 then([],1)
 else if l.any (clsh s)=true then([],12)
 else(Z34 (l.map (shfC s.at_ s.by_)),0)
def applyL (nm:ByteArray→Bool)(mx:Int):Edt→List Stp→Nat→Edt×Nat×Int
 |e,[],_=>(e,0,0)
 |e,s::l,i=>
  if(Zed e.cs s).2≠0 then(e0,i,(Zed e.cs s).2)
  else if Z0y nm mx ⟨e.rate,e.tracks,(Zed e.cs s).1⟩≠0 then(e0,i,Z0y nm mx ⟨e.rate,e.tracks,(Zed e.cs s).1⟩)
  else applyL nm mx ⟨e.rate,e.tracks,(Zed e.cs s).1⟩ l (i+1)
def applyF (nm:ByteArray→Bool)(mx:Int)(e:Edt)(l:List Stp):Edt×Nat×Int:=
 if Z0y nm mx e≠0 then(e0,0,Z0y nm mx e)else if 200<l.length then(e0,0,2)else applyL nm mx e l 0
def SrtW (l:List Cli):Prop:=l.Pairwise fun x y=>Z14 x y≤0
end Go.Dw
