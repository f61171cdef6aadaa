/- Several texts laid into one: Edits as cells; How edits that came in read; -/
import Derived.Test.YtcemlhbfemenpaaGreatDoorPlnZ
import Derived.Test.YtcemlhbfemenpaaGreatDoorDec
import Derived.Test.YtcemlhbfemenpaaGreatDoorProg
namespace Go.Dw
open Go.RowKit
def Pnt.cs (p:Pnt):List Value:= [.int .i64 p.at_,.string p.n,.string p.d]
structure CliM where
 m:ByteArray
 ch:Int
 fr:Int
 tr:Int
 at_:Int
 ln:Int
 e:Slc Pnt
def CliM.cs (c:CliM):List Value:= [.string c.m,.int .i64 c.ch,.int .i64 c.fr,.int .i64 c.tr,.int .i64 c.at_,.int .i64 c.ln,c.e.v]
def CliM.x (c:CliM):Cli:=⟨c.m,c.ch,c.fr,c.tr,c.at_,c.ln,c.e.xs⟩
def CliM.v (c:CliM):Value:= .agg #[.string c.m,.int .i64 c.ch,.int .i64 c.fr,.int .i64 c.tr,.int .i64 c.at_,.int .i64 c.ln,c.e.v]
structure EdtM where
 rate:Int
 tracks:Int
 cs:Slc CliM
def EdtM.cells (e:EdtM):List Value:= [.int .i64 e.rate,.int .i64 e.tracks,e.cs.v]
def EdtM.v (e:EdtM):Value:= .agg #[.int .i64 e.rate,.int .i64 e.tracks,e.cs.v]
def EdtM.x (e:EdtM):Edt:=⟨e.rate,e.tracks,e.cs.xs.map CliM.x⟩
def Zbu (p:Pnt):Prop:=Z0l p.at_∧p.n.size≤9223372036854775807∧p.d.size≤9223372036854775807
structure CliOk (w:World)(c:CliM):Prop where
 m:c.m.size≤9223372036854775807
 ch:Z0l c.ch
 fr:Z0l c.fr
 tr:Z0l c.tr
 at_:Z0l c.at_
 ln:Z0l c.ln
 el:c.e.xs.length≤9223372036854775807
 er:Rd w c.e.a (c.e.xs.flatMap Pnt.cs)
 eo:∀p∈c.e.xs,Zbu p
theorem CliOk.below {w w':World}{c:CliM}(h:CliOk w c)(hb:Below w.heap.size w w'):CliOk w' c:=⟨h.m,h.ch,h.fr,h.tr,h.at_,h.ln,h.el,h.er.below hb,h.eo⟩
structure EdtOk (w:World)(e:EdtM):Prop where
 rate:Z0l e.rate
 tracks:Z0l e.tracks
 cl:e.cs.xs.length≤9223372036854775807
 cr:Rd w e.cs.a (e.cs.xs.flatMap CliM.cs)
 co:∀c∈e.cs.xs,CliOk w c
theorem EdtOk.below {w w':World}{e:EdtM}(h:EdtOk w e)(hb:Below w.heap.size w w'):EdtOk w' e:=⟨h.rate,h.tracks,h.cl,h.cr.below hb,fun c hc=>(h.co c hc).below hb⟩
theorem Z4a {w:World}{A:Option Addr}{xs:List Pnt}(h:Rd w A (xs.flatMap Pnt.cs))(hn:0<xs.length):
  ∃b off,A=some ⟨b,off,none⟩∧b<w.heap.size∧∀k (hk:k<xs.length),w.cell? ⟨b,off+k*3,none⟩=some (.int .i64 xs[k].at_)∧w.cell? ⟨b,off+k*3+1,none⟩=some (.string xs[k].n)∧w.cell? ⟨b,off+k*3+2,none⟩=some (.string xs[k].d):=by
 obtain⟨b,off,e,hb,hc⟩:=h.at_ (by rw[Z0x Pnt.cs 3 (fun _=>rfl)];omega);have hk3:∀k (hk:k<xs.length) i,i<3→(xs.flatMap Pnt.cs)[k*3+i]? =(xs[k].cs)[i]? :=fun k hk i hi=>flat_get Pnt.cs 3 (fun _=>rfl) xs k i hk hi;refine⟨b,off,e,hb,fun k hk=>⟨?_, ?_, ?_⟩⟩
 · exact hc (k*3) _ (by have:=hk3 k hk 0 (by omega);rw[Nat.add_zero]at this;rw[this];rfl)
 · have:=hc (k*3+1) (.string xs[k].n) (by rw[hk3 k hk 1 (by omega)];rfl);rw[Nat.add_assoc];exact this
 · have:=hc (k*3+2) (.string xs[k].d) (by rw[hk3 k hk 2 (by omega)];rfl);rw[Nat.add_assoc];exact this
theorem Z4b {w:World}{A:Option Addr}{xs:List CliM}(h:Rd w A (xs.flatMap CliM.cs))(hn:0<xs.length):
  ∃b off,A=some ⟨b,off,none⟩∧b<w.heap.size∧∀k (hk:k<xs.length),w.cell? ⟨b,off+k*7,none⟩=some (.string xs[k].m)∧w.cell? ⟨b,off+k*7+1,none⟩=some (.int .i64 xs[k].ch)∧w.cell? ⟨b,off+k*7+2,none⟩=some (.int .i64 xs[k].fr)∧
   w.cell? ⟨b,off+k*7+3,none⟩=some (.int .i64 xs[k].tr)∧w.cell? ⟨b,off+k*7+4,none⟩=some (.int .i64 xs[k].at_)∧w.cell? ⟨b,off+k*7+5,none⟩=some (.int .i64 xs[k].ln)∧w.cell? ⟨b,off+k*7+6,none⟩=some (.slice xs[k].e.a xs[k].e.xs.length xs[k].e.c):=by
 obtain⟨b,off,e,hb,hc⟩:=h.at_ (by rw[Z0x CliM.cs 7 (fun _=>rfl)];omega);have hk7:∀k (hk:k<xs.length) i,i<7→(xs.flatMap CliM.cs)[k*7+i]? =(xs[k].cs)[i]? :=fun k hk i hi=>flat_get CliM.cs 7 (fun _=>rfl) xs k i hk hi;have key:∀k (hk:k<xs.length) i u,0<i→i<7→(xs[k].cs)[i]? =some u→w.cell? ⟨b,off+k*7+i,none⟩=some u:=fun k hk i u _ hi hu=>by have:=hc (k*7+i) u (by rw[hk7 k hk i hi];exact hu);rw[Nat.add_assoc];exact this
 refine⟨b,off,e,hb,fun k hk=>⟨?_,key k hk 1 _ (by omega) (by omega) rfl,key k hk 2 _ (by omega) (by omega) rfl,key k hk 3 _ (by omega) (by omega) rfl,key k hk 4 _ (by omega) (by omega) rfl,key k hk 5 _ (by omega) (by omega) rfl,key k hk 6 _ (by omega) (by omega) rfl⟩⟩;exact hc (k*7) _ (by have:=hk7 k hk 0 (by omega);rw[Nat.add_zero]at this;rw[this];rfl)
end Go.Dw
namespace Go.Proofs.YtcemlhbfemenpaaGreatDoor
open Go.RowKit Go.Dw
theorem decRatio {H:Type}{enc:TypeId×Value→H}{w:World}:
  Dec enc Tryz.prog w 59 (fun p:ByteArray×ByteArray=> [.string p.1,.string p.2]) (fun p=>p.1.size≤maxLen∧p.2.size≤maxLen):=
 (Dec.struct (tot:=2) (fl:= [(9,0,1),(9,1,1)]) Tryz.underlying59 (by kernel_rfl) (by kernel_rfl)
  (Z4r.cons (Dec.string Tryz.underlying9) (Z4r.cons (tot:=0) (Dec.string Tryz.underlying9) Z4r.nil))).map
  (fun p=>((p.1,p.2.1):ByteArray×ByteArray)) (fun _=>rfl) (fun p h=>⟨h.1,h.2.1⟩)
theorem decPoint {H:Type}{enc:TypeId×Value→H}{w:World}:
  Dec enc Tryz.prog w 61 Pnt.cs Zbu:=
 (Dec.struct (tot:=3) (fl:= [(3,0,1),(59,1,2)]) Tryz.underlying61 (by kernel_rfl) (by kernel_rfl)
  (Z4r.cons (Dec.int Tryz.underlying3) (Z4r.cons (tot:=0) decRatio Z4r.nil))).map
  (fun p=>(⟨p.1,p.2.1.1,p.2.1.2⟩:Pnt)) (fun _=>rfl) (fun p h=>⟨h.1,by simpa [maxLen]using h.2.1.1,by simpa [maxLen]using h.2.1.2⟩)
theorem decClip {H:Type}{enc:TypeId×Value→H}{w:World}:
  Dec enc Tryz.prog w 39 CliM.cs (CliOk w):=
 (Dec.struct (tot:=7) (fl:= [(9,0,1),(3,1,1),(3,2,1),(3,3,1),(3,4,1),(3,5,1),(37,6,1)]) Tryz.underlying39 (by kernel_rfl) (by kernel_rfl)
  (Z4r.cons (Dec.string Tryz.underlying9) (Z4r.cons (Dec.int Tryz.underlying3) (Z4r.cons (Dec.int Tryz.underlying3) (Z4r.cons (Dec.int Tryz.underlying3) (Z4r.cons (Dec.int Tryz.underlying3) (Z4r.cons (Dec.int Tryz.underlying3)
   (Z4r.cons (tot:=0) (Dec.slice 3 Tryz.underlying37 (by kernel_rfl) (fun _=>rfl) (by omega) decPoint) Z4r.nil)))))))).map
  (fun p=>(⟨p.1,p.2.1,p.2.2.1,p.2.2.2.1,p.2.2.2.2.1,p.2.2.2.2.2.1,p.2.2.2.2.2.2.1⟩:CliM)) (fun _=>rfl) (fun p h=>by
   obtain⟨h1,h2,h3,h4,h5,h6,⟨h7,h8,h9⟩,_⟩:=h
   exact⟨by simpa [maxLen]using h1,h2,h3,h4,h5,h6,by simpa [maxLen]using h7,h8,h9⟩)
theorem decEdit {H:Type}{enc:TypeId×Value→H}{w:World}:
  Dec enc Tryz.prog w 24 EdtM.cells (EdtOk w):=
 (Dec.struct (tot:=3) (fl:= [(3,0,1),(3,1,1),(22,2,1)]) Tryz.underlying24 (by kernel_rfl) (by kernel_rfl)
  (Z4r.cons (Dec.int Tryz.underlying3) (Z4r.cons (Dec.int Tryz.underlying3)
   (Z4r.cons (tot:=0) (Dec.slice 7 Tryz.underlying22 (by kernel_rfl) (fun _=>rfl) (by omega) decClip) Z4r.nil)))).map
  (fun p=>(⟨p.1,p.2.1,p.2.2.1⟩:EdtM)) (fun _=>rfl) (fun p h=>by
   obtain⟨h1,h2,⟨h3,h4,h5⟩,_⟩:=h
   exact⟨h1,h2,by simpa [maxLen]using h3,h4,h5⟩)
end Go.Proofs.YtcemlhbfemenpaaGreatDoor
