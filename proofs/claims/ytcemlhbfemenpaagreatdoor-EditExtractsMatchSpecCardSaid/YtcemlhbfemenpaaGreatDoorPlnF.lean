/- Several texts laid into one: The contract of sound.IsName; Plain: names; -/
import Derived.Test.YtcemlhbfemenpaaGreatDoorBase
import Derived.Test.YtcemlhbfemenpaaGreatDoorShelf
set_option maxHeartbeats 1000000
namespace Go.Proofs.YtcemlhbfemenpaaGreatDoor
open Go.RowKit Go.Dw
def Z61:ByteArray:=⟨#[97,98,99,100,101,102,103,104,105,106,107,108,109,110,111,112,113,114,115,116,117,118,119,120,121,122,48,49,50,51,52,53,54,55,56,57,45]⟩
def Zap (s:ByteArray):Bool:=(Lib.trimS s.data.toList Z61.data.toList).isEmpty
def Z0r (s:ByteArray):Bool:=if h:0<s.size then decide (s.size≤40) && (decide (97≤(s[0]'h).toNat) && decide ((s[0]'h).toNat≤122)) && Zap s else false
theorem trim_any (s:ByteArray)(w:World)(hs:s.size≤9223372036854775807):
  Calls Tryz.prog 72 #[.string s,.string Z61] w fun e w'=>e= .returned (.string ⟨(Lib.trimS s.data.toList Z61.data.toList).toArray⟩)∧Below w.heap.size w w':=
 Any.strings_Trim_laid Tryz.lays160 (by kernel_rfl) s Z61 w hs (by decide) (ascii_of_all (by decide))
theorem Zc3 (s:ByteArray)(w:World)(hs:s.size≤9223372036854775807):
  Calls Tryz.prog 45 #[.string s] w fun e w'=>e= .returned (.bool (Z0r s))∧Below w.heap.size w w':=by
 by_cases h0:0<s.size
 ·
  by_cases h1:40<s.size
  · have hf:Z0r s=false:=(by unfold Z0r;rw[dif_pos h0];simp;intro h;omega);rw[hf];go_enter Tryz.func45,Tryz.ntmps45;go_wp2_with fail;go_ret;exact⟨rfl,Zm _ _⟩
  ·
   by_cases h2:(s[0]'h0).toNat<97
   · have hf:Z0r s=false:=(by unfold Z0r;rw[dif_pos h0];simp;intro _ h;omega);rw[hf];have h2':((s[0]'h0).toNat:Int)<97:=(by omega);go_enter Tryz.func45,Tryz.ntmps45;go_wp2_with fail;go_ret;exact⟨rfl,Zm _ _⟩
   ·
    by_cases h3:122<(s[0]'h0).toNat
    · have hf:Z0r s=false:=(by unfold Z0r;rw[dif_pos h0];simp;intro _ _ h;omega);rw[hf];have h3':(122:Int)<((s[0]'h0).toNat:Int):=(by omega);go_enter Tryz.func45,Tryz.ntmps45;go_wp2_with fail;go_ret;exact⟨rfl,Zm _ _⟩
    · have hf:Z0r s=Zap s:=(by unfold Z0r;rw[dif_pos h0];simp[show s.size≤40 by omega,show 97≤(s[0]'h0).toNat by omega,show(s[0]'h0).toNat≤122 by omega]);rw[hf];clear hf;go_enter Tryz.func45,Tryz.ntmps45;go_wp2_with fail;refine(trim_any s _ hs).mono ?_;rintro e w' ⟨rfl,hb⟩;have HB:=Za hb;clear hb;go_wp2_with fail;go_ret;exact⟨rfl,HB.o⟩
 · have hf:Z0r s=false:=(by unfold Z0r;rw[dif_neg h0]);rw[hf];go_enter Tryz.func45,Tryz.ntmps45;go_wp2_with fail;go_ret;exact⟨rfl,Zm _ _⟩
def okB (b:UInt8):Bool:=(decide (97≤b.toNat) && decide (b.toNat≤122))||(decide (48≤b.toNat) && decide (b.toNat≤57))||decide (b.toNat=45)
theorem okB_all:∀i:Fin 256,Z61.data.toList.contains (UInt8.ofNat i.val)=okB (UInt8.ofNat i.val):=by decide+kernel
theorem okB_eq (b:UInt8):Z61.data.toList.contains b=okB b:=by
 have:=okB_all ⟨b.toNat,b.toNat_lt⟩;simpa using this
theorem Z23 {α:Type}(p:α→Bool):∀l:List α,l.dropWhile p= []↔l.all p=true
 | []=>by simp
 |a::l=>by
  have ih:=Z23 p l;by_cases h:p a=true
  · rw[List.dropWhile_cons_of_pos h,ih];simp[h]
  · rw[List.dropWhile_cons_of_neg (by simpa using h)];simp[h]
theorem Ze7 (s:ByteArray):Zap s=s.data.toList.all okB:=by
 have hp:(fun b:UInt8=>Z61.data.toList.contains b)=okB:=funext okB_eq;unfold Zap;rw[Bool.eq_iff_iff,List.isEmpty_iff];unfold Lib.trimS Lib.trimLeftS Lib.trimRightS;rw[hp,Z23];rw[List.all_reverse];constructor
 ·
  intro h
  have h2:(s.data.toList.reverse.dropWhile okB)= []:=by
   cases hd:s.data.toList.reverse.dropWhile okB with
   |nil=>rfl
   |cons a t=>
    rw[hd]at h;have:=List.head_dropWhile_not okB (l:=s.data.toList.reverse) (by rw[hd];simp);simp[hd]at this;simp[this]at h
  rw[Z23,List.all_reverse]at h2;exact h2
 · intro h;have:s.data.toList.reverse.dropWhile okB= []:=(by rw[Z23,List.all_reverse];exact h);rw[this];rfl
theorem all_succ (s:ByteArray)(k:Nat)(h:k<s.size):(s.data.toList.take (k+1)).all okB=((s.data.toList.take k).all okB && okB s[k]):=by
 rw[List.take_succ_eq_append_getElem (by simpa using h),List.all_append];have:s.data.toList[k]'(by simpa using h)=s[k]:=rfl;rw[this];simp
theorem Ze8 (s:ByteArray)(k:Nat)(h:k<s.size)(hb:okB s[k]=false):s.data.toList.all okB=false:=by
 rw[List.all_eq_false];exact⟨s[k],Zn (l:=s.data.toList) (by simpa using h),by simp[hb]⟩
theorem emp_f {s:ByteArray}(h:0<s.size):s.toList.isEmpty=false:=by
 rw[ByteArray.toList_eq];cases hl:s.data.toList with
 |nil=>
  have:s.size=s.data.toList.length:=by simp
  rw[hl,List.length_nil]at this;omega
 |cons a t=>rfl
theorem emp_t {s:ByteArray}(h:¬0<s.size):s.toList.isEmpty=true∧s.toList= []:=by
 have h0:s.data.toList= []:=by apply Zk;have:s.size=s.data.toList.length:=(by simp);omega
 rw[ByteArray.toList_eq,h0];exact⟨rfl,rfl⟩
end Go.Proofs.YtcemlhbfemenpaaGreatDoor
