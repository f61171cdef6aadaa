/- An edit, or a fault, as values. -/
import Derived.Test.YtcemlhbfemenpaaGreatDoorStpZ
namespace Go.Proofs.YtcemlhbfemenpaaGreatDoor
open Go.RowKit Go.Dw
def EdiR (r:Edt×Int)(w:World)(e:Ending)(w':World):Prop:=Gq w w'∧∃x:EdtM,e= .returned (.tuple #[x.v,.int .i64 r.2])∧x.x=r.1∧EdtOk w' x
theorem Zee (w:World):EdtOk w ⟨0,0,⟨none,0,[]⟩⟩:=⟨⟨by decide,by decide⟩,⟨by decide,by decide⟩,by simp,.inl rfl,fun c hc=>by simp at hc⟩
theorem Z3e {w w':World}{r:Edt×Int}{f:Int}(hr:r=(e0,f))(hb:Gq w w'):EdiR r w (.returned (.tuple #[.agg #[.int .i64 0,.int .i64 0,.slice none 0 0],.int .i64 f])) w':=by
 subst hr;exact⟨hb,⟨0,0,⟨none,0,[]⟩⟩,rfl,rfl,Zee w'⟩
def ckV (f:Int)(v:Value):Value:=if f=0 then v else .agg #[.int .i64 0,.int .i64 0,.slice none 0 0]
theorem Zas (v:Value):ckV 0 v=v:=rfl
theorem Z7i {f:Int}(h:f≠0)(v:Value):ckV f v= .agg #[.int .i64 0,.int .i64 0,.slice none 0 0]:=if_neg h
end Go.Proofs.YtcemlhbfemenpaaGreatDoor
