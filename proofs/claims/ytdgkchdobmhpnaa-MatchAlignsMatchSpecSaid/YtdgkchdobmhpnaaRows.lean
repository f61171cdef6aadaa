/-
  No cell of these rows narrows 'for every input' (looked for: loops, veiled, ifaces, maps, wideKeys, modest, calm, conditions, laid).
  DERIVED. THE GIVEN ROWS OF THIS SEAT. 6 by the template 'for every input the law returns true; each argument reads behind the call as it read before'; 0 by the template 'total and deterministic' (their statements: YtdgkchdobmhpnaaTotals.lean).
  GIVEN WITH THE SEED: the statements are not yours to turn. If you find one false, say at which input.
  Laid BY PROGRAM, IN A SANDBOX (cutbox-rows.mjs): the forced cells as the released guide's own fill.sh prints them over the translation 4c9ef4ed67396b31… (all of the seat's roots in one cut). By AI agents, Wed Nov 11 2026. No macro, syntax, notation, axiom, sorry.
-/
import Derived.Test.YtdgkchdobmhpnaaChecked
import GoSem.Claim
import GoSem.ClaimJoined
import GoSem.ClaimMapViews
import Derived.JoinedTies
import Derived.KernelRfl
namespace Go.Proofs.Ytdgkchdobmhpnaa
/- THE CELL 'sum', in the pinned program and in every row, IS THE sha256 OF THE DUMP (.gsa) THAT YtdgkchdobmhpnaaProg.lean LOADS. Nothing in Lean hashes anything: it is a label: what it is worth is what the hold of that sum in a sandbox is worth. -/
noncomputable def Try.pinned : Pinned := { name := "ytdgkchdobmhpnaa", sum := "4c9ef4ed67396b31c0dbc990abc9337843a963d574613c6fa0b5c0363b7a4141", checked := Try.checked }
namespace Rows
def none {H : Type} : Left H := { results := [], args := [] }

/-- 'deadwaxlaw4.MatchTextsMatchSpec': WHATEVER THE INPUT: true; the input reads as it did. -/
def matchTextsMatchSpecSpec : ChangeSpec := { name := "matchTextsMatchSpec", fn := fun _ => fun
  | [d1, d2] => { results := [.lit (.bool true)], args := [d1, d2] }
  | _ => none }
def matchTextsMatchSpecRow : OpenClaim := { program := "ytdgkchdobmhpnaa", sum := "4c9ef4ed67396b31c0dbc990abc9337843a963d574613c6fa0b5c0363b7a4141", func := "deadwax/deadwaxlaw4.MatchTextsMatchSpec", spec := "matchTextsMatchSpec", inPlace := ["internal/bytealg.IndexByteString"], apart := false }
def MatchTextsMatchSpecSaid : Prop := matchTextsMatchSpecRow.holds Try.pinned (OpenSpec.ofChange matchTextsMatchSpecSpec)

/-- ITS FALSE NEIGHBOUR: 'it returns false'. Refute it at one input. -/
def matchTextsMatchSpecWrong : ChangeSpec := { name := "matchTextsMatchSpec", fn := fun _ => fun
  | [d1, d2] => { results := [.lit (.bool false)], args := [d1, d2] }
  | _ => none }
def MatchTextsMatchSpecWrongFalsely : Prop := matchTextsMatchSpecRow.holds Try.pinned (OpenSpec.ofChange matchTextsMatchSpecWrong)

/-- 'deadwaxlaw4.MatchPairsMatchSpec': WHATEVER THE INPUT: true; the input reads as it did. -/
def matchPairsMatchSpecSpec : ChangeSpec := { name := "matchPairsMatchSpec", fn := fun _ => fun
  | [d1, d2] => { results := [.lit (.bool true)], args := [d1, d2] }
  | _ => none }
def matchPairsMatchSpecRow : OpenClaim := { program := "ytdgkchdobmhpnaa", sum := "4c9ef4ed67396b31c0dbc990abc9337843a963d574613c6fa0b5c0363b7a4141", func := "deadwax/deadwaxlaw4.MatchPairsMatchSpec", spec := "matchPairsMatchSpec", apart := false }
def MatchPairsMatchSpecSaid : Prop := matchPairsMatchSpecRow.holds Try.pinned (OpenSpec.ofChange matchPairsMatchSpecSpec)

/-- ITS FALSE NEIGHBOUR: 'it returns false'. Refute it at one input. -/
def matchPairsMatchSpecWrong : ChangeSpec := { name := "matchPairsMatchSpec", fn := fun _ => fun
  | [d1, d2] => { results := [.lit (.bool false)], args := [d1, d2] }
  | _ => none }
def MatchPairsMatchSpecWrongFalsely : Prop := matchPairsMatchSpecRow.holds Try.pinned (OpenSpec.ofChange matchPairsMatchSpecWrong)

/-- 'deadwaxlaw4.MatchChoosesTheBest': WHATEVER THE INPUT: true; the input reads as it did. -/
def matchChoosesTheBestSpec : ChangeSpec := { name := "matchChoosesTheBest", fn := fun _ => fun
  | [d1, d2] => { results := [.lit (.bool true)], args := [d1, d2] }
  | _ => none }
def matchChoosesTheBestRow : OpenClaim := { program := "ytdgkchdobmhpnaa", sum := "4c9ef4ed67396b31c0dbc990abc9337843a963d574613c6fa0b5c0363b7a4141", func := "deadwax/deadwaxlaw4.MatchChoosesTheBest", spec := "matchChoosesTheBest", apart := false }
def MatchChoosesTheBestSaid : Prop := matchChoosesTheBestRow.holds Try.pinned (OpenSpec.ofChange matchChoosesTheBestSpec)

/-- ITS FALSE NEIGHBOUR: 'it returns false'. Refute it at one input. -/
def matchChoosesTheBestWrong : ChangeSpec := { name := "matchChoosesTheBest", fn := fun _ => fun
  | [d1, d2] => { results := [.lit (.bool false)], args := [d1, d2] }
  | _ => none }
def MatchChoosesTheBestWrongFalsely : Prop := matchChoosesTheBestRow.holds Try.pinned (OpenSpec.ofChange matchChoosesTheBestWrong)

/-- 'deadwaxlaw4.MatchAlignsWithTheLeast': WHATEVER THE INPUT: true; the input reads as it did. -/
def matchAlignsWithTheLeastSpec : ChangeSpec := { name := "matchAlignsWithTheLeast", fn := fun _ => fun
  | [d1, d2, d3, d4] => { results := [.lit (.bool true)], args := [d1, d2, d3, d4] }
  | _ => none }
def matchAlignsWithTheLeastRow : OpenClaim := { program := "ytdgkchdobmhpnaa", sum := "4c9ef4ed67396b31c0dbc990abc9337843a963d574613c6fa0b5c0363b7a4141", func := "deadwax/deadwaxlaw4.MatchAlignsWithTheLeast", spec := "matchAlignsWithTheLeast", apart := false }
def MatchAlignsWithTheLeastSaid : Prop := matchAlignsWithTheLeastRow.holds Try.pinned (OpenSpec.ofChange matchAlignsWithTheLeastSpec)

/-- ITS FALSE NEIGHBOUR: 'it returns false'. Refute it at one input. -/
def matchAlignsWithTheLeastWrong : ChangeSpec := { name := "matchAlignsWithTheLeast", fn := fun _ => fun
  | [d1, d2, d3, d4] => { results := [.lit (.bool false)], args := [d1, d2, d3, d4] }
  | _ => none }
def MatchAlignsWithTheLeastWrongFalsely : Prop := matchAlignsWithTheLeastRow.holds Try.pinned (OpenSpec.ofChange matchAlignsWithTheLeastWrong)

/-- 'deadwaxlaw4.MatchChoicesMatchSpec': WHATEVER THE INPUT: true; the input reads as it did. -/
def matchChoicesMatchSpecSpec : ChangeSpec := { name := "matchChoicesMatchSpec", fn := fun _ => fun
  | [d1, d2] => { results := [.lit (.bool true)], args := [d1, d2] }
  | _ => none }
def matchChoicesMatchSpecRow : OpenClaim := { program := "ytdgkchdobmhpnaa", sum := "4c9ef4ed67396b31c0dbc990abc9337843a963d574613c6fa0b5c0363b7a4141", func := "deadwax/deadwaxlaw4.MatchChoicesMatchSpec", spec := "matchChoicesMatchSpec", apart := false }
def MatchChoicesMatchSpecSaid : Prop := matchChoicesMatchSpecRow.holds Try.pinned (OpenSpec.ofChange matchChoicesMatchSpecSpec)

/-- ITS FALSE NEIGHBOUR: 'it returns false'. Refute it at one input. -/
def matchChoicesMatchSpecWrong : ChangeSpec := { name := "matchChoicesMatchSpec", fn := fun _ => fun
  | [d1, d2] => { results := [.lit (.bool false)], args := [d1, d2] }
  | _ => none }
def MatchChoicesMatchSpecWrongFalsely : Prop := matchChoicesMatchSpecRow.holds Try.pinned (OpenSpec.ofChange matchChoicesMatchSpecWrong)

/-- 'deadwaxlaw4.MatchAlignsMatchSpec': WHATEVER THE INPUT: true; the input reads as it did. -/
def matchAlignsMatchSpecSpec : ChangeSpec := { name := "matchAlignsMatchSpec", fn := fun _ => fun
  | [d1, d2, d3, d4] => { results := [.lit (.bool true)], args := [d1, d2, d3, d4] }
  | _ => none }
def matchAlignsMatchSpecRow : OpenClaim := { program := "ytdgkchdobmhpnaa", sum := "4c9ef4ed67396b31c0dbc990abc9337843a963d574613c6fa0b5c0363b7a4141", func := "deadwax/deadwaxlaw4.MatchAlignsMatchSpec", spec := "matchAlignsMatchSpec", apart := false }
def MatchAlignsMatchSpecSaid : Prop := matchAlignsMatchSpecRow.holds Try.pinned (OpenSpec.ofChange matchAlignsMatchSpecSpec)

/-- ITS FALSE NEIGHBOUR: 'it returns false'. Refute it at one input. -/
def matchAlignsMatchSpecWrong : ChangeSpec := { name := "matchAlignsMatchSpec", fn := fun _ => fun
  | [d1, d2, d3, d4] => { results := [.lit (.bool false)], args := [d1, d2, d3, d4] }
  | _ => none }
def MatchAlignsMatchSpecWrongFalsely : Prop := matchAlignsMatchSpecRow.holds Try.pinned (OpenSpec.ofChange matchAlignsMatchSpecWrong)

/- THE SECOND FORM. 'bulk': how many values and letters a reading holds, each counted each time it is reached (what is shared counts as often as it is met; a slice's spare places count too). A statement '..UptoSaid' is the law's where the arguments, and the package variables that the reading takes, are together of bulk at most 1048576: NARROWER than '..Said'. Prove '..Said' where nothing that the law and all that it calls make is longer than what came in: it says more and counts as full. Else prove '..UptoSaid'. A law counts once. -/
mutual
def uptoBulk {H : Type} : DataW H → Nat
  | .lit (.string bytes) => bytes.length + 1
  | .lit _ => 1
  | .nil => 1
  | .ptr d => uptoBulk d + 1
  | .slice elems spare => uptoBulkAll elems + uptoBulkAll spare + 1
  | .agg parts => uptoBulkAll parts + 1
  | .iface _ d => uptoBulk d + 1
  | .map entries => uptoBulkEntries entries + 1
  | .held _ => 1
def uptoBulkAll {H : Type} : List (DataW H) → Nat
  | [] => 0
  | d :: r => uptoBulk d + uptoBulkAll r
def uptoBulkEntries {H : Type} : List (Lit × DataW H) → Nat
  | [] => 0
  | x :: r => uptoBulkEntry x + uptoBulkEntries r
def uptoBulkEntry {H : Type} : Lit × DataW H → Nat
  | (.string bytes, d) => bytes.length + uptoBulk d + 1
  | (_, d) => uptoBulk d + 1
 end
def uptoSmall : (H : Type) → List (DataW H) → Bool := fun _ ds => decide (uptoBulkAll ds ≤ 1048576)
def OpenSpec.upto (s : _root_.Go.ChangeSpec) : _root_.Go.OpenSpec := { _root_.Go.OpenSpec.ofChange s with cond := some uptoSmall }

/-- 'deadwaxlaw4.MatchTextsMatchSpec', WHERE WHAT IT READS IS OF BULK AT MOST 1048576: true; the input reads as it did. -/
def matchTextsMatchSpecUptoRow : OpenClaim := { program := "ytdgkchdobmhpnaa", sum := "4c9ef4ed67396b31c0dbc990abc9337843a963d574613c6fa0b5c0363b7a4141", func := "deadwax/deadwaxlaw4.MatchTextsMatchSpec", spec := "matchTextsMatchSpec", inPlace := ["internal/bytealg.IndexByteString"], apart := false, narrowed := true }
def MatchTextsMatchSpecUptoSaid : Prop := matchTextsMatchSpecUptoRow.holds Try.pinned (OpenSpec.upto matchTextsMatchSpecSpec)

/-- 'deadwaxlaw4.MatchPairsMatchSpec', WHERE WHAT IT READS IS OF BULK AT MOST 1048576: true; the input reads as it did. -/
def matchPairsMatchSpecUptoRow : OpenClaim := { program := "ytdgkchdobmhpnaa", sum := "4c9ef4ed67396b31c0dbc990abc9337843a963d574613c6fa0b5c0363b7a4141", func := "deadwax/deadwaxlaw4.MatchPairsMatchSpec", spec := "matchPairsMatchSpec", apart := false, narrowed := true }
def MatchPairsMatchSpecUptoSaid : Prop := matchPairsMatchSpecUptoRow.holds Try.pinned (OpenSpec.upto matchPairsMatchSpecSpec)

/-- 'deadwaxlaw4.MatchChoosesTheBest', WHERE WHAT IT READS IS OF BULK AT MOST 1048576: true; the input reads as it did. -/
def matchChoosesTheBestUptoRow : OpenClaim := { program := "ytdgkchdobmhpnaa", sum := "4c9ef4ed67396b31c0dbc990abc9337843a963d574613c6fa0b5c0363b7a4141", func := "deadwax/deadwaxlaw4.MatchChoosesTheBest", spec := "matchChoosesTheBest", apart := false, narrowed := true }
def MatchChoosesTheBestUptoSaid : Prop := matchChoosesTheBestUptoRow.holds Try.pinned (OpenSpec.upto matchChoosesTheBestSpec)

/-- 'deadwaxlaw4.MatchAlignsWithTheLeast', WHERE WHAT IT READS IS OF BULK AT MOST 1048576: true; the input reads as it did. -/
def matchAlignsWithTheLeastUptoRow : OpenClaim := { program := "ytdgkchdobmhpnaa", sum := "4c9ef4ed67396b31c0dbc990abc9337843a963d574613c6fa0b5c0363b7a4141", func := "deadwax/deadwaxlaw4.MatchAlignsWithTheLeast", spec := "matchAlignsWithTheLeast", apart := false, narrowed := true }
def MatchAlignsWithTheLeastUptoSaid : Prop := matchAlignsWithTheLeastUptoRow.holds Try.pinned (OpenSpec.upto matchAlignsWithTheLeastSpec)

/-- 'deadwaxlaw4.MatchChoicesMatchSpec', WHERE WHAT IT READS IS OF BULK AT MOST 1048576: true; the input reads as it did. -/
def matchChoicesMatchSpecUptoRow : OpenClaim := { program := "ytdgkchdobmhpnaa", sum := "4c9ef4ed67396b31c0dbc990abc9337843a963d574613c6fa0b5c0363b7a4141", func := "deadwax/deadwaxlaw4.MatchChoicesMatchSpec", spec := "matchChoicesMatchSpec", apart := false, narrowed := true }
def MatchChoicesMatchSpecUptoSaid : Prop := matchChoicesMatchSpecUptoRow.holds Try.pinned (OpenSpec.upto matchChoicesMatchSpecSpec)

/-- 'deadwaxlaw4.MatchAlignsMatchSpec', WHERE WHAT IT READS IS OF BULK AT MOST 1048576: true; the input reads as it did. -/
def matchAlignsMatchSpecUptoRow : OpenClaim := { program := "ytdgkchdobmhpnaa", sum := "4c9ef4ed67396b31c0dbc990abc9337843a963d574613c6fa0b5c0363b7a4141", func := "deadwax/deadwaxlaw4.MatchAlignsMatchSpec", spec := "matchAlignsMatchSpec", apart := false, narrowed := true }
def MatchAlignsMatchSpecUptoSaid : Prop := matchAlignsMatchSpecUptoRow.holds Try.pinned (OpenSpec.upto matchAlignsMatchSpecSpec)

end Rows
end Go.Proofs.Ytdgkchdobmhpnaa
