/-
  No cell of these rows narrows 'for every input' (looked for: loops, veiled, ifaces, maps, wideKeys, modest, calm, conditions, laid).
  DERIVED. THE GIVEN ROWS OF THIS SEAT. 12 by the template 'for every input the law returns true; each argument reads behind the call as it read before'; 0 by the template 'total and deterministic' (their statements: YtlncodfolaoilaaTotals.lean).
  GIVEN WITH THE SEED: the statements are not yours to turn. If you find one false, say at which input.
  Laid BY PROGRAM, IN A SANDBOX (cutbox-rows.mjs): the forced cells as the released guide's own fill.sh prints them over the translation 7a9a8fce6116a1ee… (all of the seat's roots in one cut). By AI agents, Wed Nov 11 2026. No macro, syntax, notation, axiom, sorry.
-/
import Derived.Test.YtlncodfolaoilaaChecked
import GoSem.Claim
import GoSem.ClaimJoined
import GoSem.ClaimMapViews
import Derived.JoinedTies
import Derived.KernelRfl
namespace Go.Proofs.Ytlncodfolaoilaa
/- THE CELL 'sum', in the pinned program and in every row, IS THE sha256 OF THE DUMP (.gsa) THAT YtlncodfolaoilaaProg.lean LOADS. Nothing in Lean hashes anything: it is a label: what it is worth is what the hold of that sum in a sandbox is worth. -/
noncomputable def Try.pinned : Pinned := { name := "ytlncodfolaoilaa", sum := "7a9a8fce6116a1ee0dbc00a54a76d95836ebb195c3a692d8d69ec6cecaeed355", checked := Try.checked }
namespace Rows
def none {H : Type} : Left H := { results := [], args := [] }

/-- 'burrowlaw05.ShasNone': WHATEVER THE INPUT: true; the input reads as it did. -/
def shasNoneSpec : ChangeSpec := { name := "shasNone", fn := fun _ => fun
  | [d] => { results := [.lit (.bool true)], args := [d] }
  | _ => none }
def shasNoneRow : OpenClaim := { program := "ytlncodfolaoilaa", sum := "7a9a8fce6116a1ee0dbc00a54a76d95836ebb195c3a692d8d69ec6cecaeed355", func := "burrow/burrowlaw05.ShasNone", spec := "shasNone", unfollowed := true, recurses := true, apart := false }
def ShasNoneSaid : Prop := shasNoneRow.holds Try.pinned (OpenSpec.ofChange shasNoneSpec)

/-- ITS FALSE NEIGHBOUR: 'it returns false'. Refute it at one input. -/
def shasNoneWrong : ChangeSpec := { name := "shasNone", fn := fun _ => fun
  | [d] => { results := [.lit (.bool false)], args := [d] }
  | _ => none }
def ShasNoneWrongFalsely : Prop := shasNoneRow.holds Try.pinned (OpenSpec.ofChange shasNoneWrong)

/-- 'burrowlaw05.ShasOf': WHATEVER THE INPUT: true; the input reads as it did. -/
def shasOfSpec : ChangeSpec := { name := "shasOf", fn := fun _ => fun
  | [d] => { results := [.lit (.bool true)], args := [d] }
  | _ => none }
def shasOfRow : OpenClaim := { program := "ytlncodfolaoilaa", sum := "7a9a8fce6116a1ee0dbc00a54a76d95836ebb195c3a692d8d69ec6cecaeed355", func := "burrow/burrowlaw05.ShasOf", spec := "shasOf", unfollowed := true, recurses := true, apart := false }
def ShasOfSaid : Prop := shasOfRow.holds Try.pinned (OpenSpec.ofChange shasOfSpec)

/-- ITS FALSE NEIGHBOUR: 'it returns false'. Refute it at one input. -/
def shasOfWrong : ChangeSpec := { name := "shasOf", fn := fun _ => fun
  | [d] => { results := [.lit (.bool false)], args := [d] }
  | _ => none }
def ShasOfWrongFalsely : Prop := shasOfRow.holds Try.pinned (OpenSpec.ofChange shasOfWrong)

/-- 'burrowlaw08.MacsKey': WHATEVER THE INPUT: true; the input reads as it did. -/
def macsKeySpec : ChangeSpec := { name := "macsKey", fn := fun _ => fun
  | [d1, d2, d3] => { results := [.lit (.bool true)], args := [d1, d2, d3] }
  | _ => none }
def macsKeyRow : OpenClaim := { program := "ytlncodfolaoilaa", sum := "7a9a8fce6116a1ee0dbc00a54a76d95836ebb195c3a692d8d69ec6cecaeed355", func := "burrow/burrowlaw08.MacsKey", spec := "macsKey", unfollowed := true, recurses := true, apart := false }
def MacsKeySaid : Prop := macsKeyRow.holds Try.pinned (OpenSpec.ofChange macsKeySpec)

/-- ITS FALSE NEIGHBOUR: 'it returns false'. Refute it at one input. -/
def macsKeyWrong : ChangeSpec := { name := "macsKey", fn := fun _ => fun
  | [d1, d2, d3] => { results := [.lit (.bool false)], args := [d1, d2, d3] }
  | _ => none }
def MacsKeyWrongFalsely : Prop := macsKeyRow.holds Try.pinned (OpenSpec.ofChange macsKeyWrong)

/-- 'burrowlaw08.MacsSame': WHATEVER THE INPUT: true; the input reads as it did. -/
def macsSameSpec : ChangeSpec := { name := "macsSame", fn := fun _ => fun
  | [d1, d2, d3] => { results := [.lit (.bool true)], args := [d1, d2, d3] }
  | _ => none }
def macsSameRow : OpenClaim := { program := "ytlncodfolaoilaa", sum := "7a9a8fce6116a1ee0dbc00a54a76d95836ebb195c3a692d8d69ec6cecaeed355", func := "burrow/burrowlaw08.MacsSame", spec := "macsSame", unfollowed := true, recurses := true, apart := false }
def MacsSameSaid : Prop := macsSameRow.holds Try.pinned (OpenSpec.ofChange macsSameSpec)

/-- ITS FALSE NEIGHBOUR: 'it returns false'. Refute it at one input. -/
def macsSameWrong : ChangeSpec := { name := "macsSame", fn := fun _ => fun
  | [d1, d2, d3] => { results := [.lit (.bool false)], args := [d1, d2, d3] }
  | _ => none }
def MacsSameWrongFalsely : Prop := macsSameRow.holds Try.pinned (OpenSpec.ofChange macsSameWrong)

/-- 'burrowlaw15.PuzzlesMake': WHATEVER THE INPUT: true; the input reads as it did. -/
def puzzlesMakeSpec : ChangeSpec := { name := "puzzlesMake", fn := fun _ => fun
  | [d1, d2] => { results := [.lit (.bool true)], args := [d1, d2] }
  | _ => none }
def puzzlesMakeRow : OpenClaim := { program := "ytlncodfolaoilaa", sum := "7a9a8fce6116a1ee0dbc00a54a76d95836ebb195c3a692d8d69ec6cecaeed355", func := "burrow/burrowlaw15.PuzzlesMake", spec := "puzzlesMake", unfollowed := true, recurses := true, apart := false }
def PuzzlesMakeSaid : Prop := puzzlesMakeRow.holds Try.pinned (OpenSpec.ofChange puzzlesMakeSpec)

/-- ITS FALSE NEIGHBOUR: 'it returns false'. Refute it at one input. -/
def puzzlesMakeWrong : ChangeSpec := { name := "puzzlesMake", fn := fun _ => fun
  | [d1, d2] => { results := [.lit (.bool false)], args := [d1, d2] }
  | _ => none }
def PuzzlesMakeWrongFalsely : Prop := puzzlesMakeRow.holds Try.pinned (OpenSpec.ofChange puzzlesMakeWrong)

/-- 'burrowlaw15.PuzzlesCheck': WHATEVER THE INPUT: true; the input reads as it did. -/
def puzzlesCheckSpec : ChangeSpec := { name := "puzzlesCheck", fn := fun _ => fun
  | [d1, d2, d3] => { results := [.lit (.bool true)], args := [d1, d2, d3] }
  | _ => none }
def puzzlesCheckRow : OpenClaim := { program := "ytlncodfolaoilaa", sum := "7a9a8fce6116a1ee0dbc00a54a76d95836ebb195c3a692d8d69ec6cecaeed355", func := "burrow/burrowlaw15.PuzzlesCheck", spec := "puzzlesCheck", unfollowed := true, recurses := true, apart := false }
def PuzzlesCheckSaid : Prop := puzzlesCheckRow.holds Try.pinned (OpenSpec.ofChange puzzlesCheckSpec)

/-- ITS FALSE NEIGHBOUR: 'it returns false'. Refute it at one input. -/
def puzzlesCheckWrong : ChangeSpec := { name := "puzzlesCheck", fn := fun _ => fun
  | [d1, d2, d3] => { results := [.lit (.bool false)], args := [d1, d2, d3] }
  | _ => none }
def PuzzlesCheckWrongFalsely : Prop := puzzlesCheckRow.holds Try.pinned (OpenSpec.ofChange puzzlesCheckWrong)

/-- 'burrowlaw15.PuzzlesSolve': WHATEVER THE INPUT: true; the input reads as it did. -/
def puzzlesSolveSpec : ChangeSpec := { name := "puzzlesSolve", fn := fun _ => fun
  | [d] => { results := [.lit (.bool true)], args := [d] }
  | _ => none }
def puzzlesSolveRow : OpenClaim := { program := "ytlncodfolaoilaa", sum := "7a9a8fce6116a1ee0dbc00a54a76d95836ebb195c3a692d8d69ec6cecaeed355", func := "burrow/burrowlaw15.PuzzlesSolve", spec := "puzzlesSolve", unfollowed := true, recurses := true, apart := false }
def PuzzlesSolveSaid : Prop := puzzlesSolveRow.holds Try.pinned (OpenSpec.ofChange puzzlesSolveSpec)

/-- ITS FALSE NEIGHBOUR: 'it returns false'. Refute it at one input. -/
def puzzlesSolveWrong : ChangeSpec := { name := "puzzlesSolve", fn := fun _ => fun
  | [d] => { results := [.lit (.bool false)], args := [d] }
  | _ => none }
def PuzzlesSolveWrongFalsely : Prop := puzzlesSolveRow.holds Try.pinned (OpenSpec.ofChange puzzlesSolveWrong)

/-- 'burrowlaw15.PuzzlesSame': WHATEVER THE INPUT: true; the input reads as it did. -/
def puzzlesSameSpec : ChangeSpec := { name := "puzzlesSame", fn := fun _ => fun
  | [d] => { results := [.lit (.bool true)], args := [d] }
  | _ => none }
def puzzlesSameRow : OpenClaim := { program := "ytlncodfolaoilaa", sum := "7a9a8fce6116a1ee0dbc00a54a76d95836ebb195c3a692d8d69ec6cecaeed355", func := "burrow/burrowlaw15.PuzzlesSame", spec := "puzzlesSame", unfollowed := true, recurses := true, apart := false }
def PuzzlesSameSaid : Prop := puzzlesSameRow.holds Try.pinned (OpenSpec.ofChange puzzlesSameSpec)

/-- ITS FALSE NEIGHBOUR: 'it returns false'. Refute it at one input. -/
def puzzlesSameWrong : ChangeSpec := { name := "puzzlesSame", fn := fun _ => fun
  | [d] => { results := [.lit (.bool false)], args := [d] }
  | _ => none }
def PuzzlesSameWrongFalsely : Prop := puzzlesSameRow.holds Try.pinned (OpenSpec.ofChange puzzlesSameWrong)

/-- 'burrowlaw15.PuzzlesBits': WHATEVER THE INPUT: true; the input reads as it did. -/
def puzzlesBitsSpec : ChangeSpec := { name := "puzzlesBits", fn := fun _ => fun
  | [d1, d2] => { results := [.lit (.bool true)], args := [d1, d2] }
  | _ => none }
def puzzlesBitsRow : OpenClaim := { program := "ytlncodfolaoilaa", sum := "7a9a8fce6116a1ee0dbc00a54a76d95836ebb195c3a692d8d69ec6cecaeed355", func := "burrow/burrowlaw15.PuzzlesBits", spec := "puzzlesBits", unfollowed := true, recurses := true, apart := false }
def PuzzlesBitsSaid : Prop := puzzlesBitsRow.holds Try.pinned (OpenSpec.ofChange puzzlesBitsSpec)

/-- ITS FALSE NEIGHBOUR: 'it returns false'. Refute it at one input. -/
def puzzlesBitsWrong : ChangeSpec := { name := "puzzlesBits", fn := fun _ => fun
  | [d1, d2] => { results := [.lit (.bool false)], args := [d1, d2] }
  | _ => none }
def PuzzlesBitsWrongFalsely : Prop := puzzlesBitsRow.holds Try.pinned (OpenSpec.ofChange puzzlesBitsWrong)

/-- 'burrowlaw11.DrawsNone': WHATEVER THE INPUT: true; the input reads as it did. -/
def drawsNoneSpec : ChangeSpec := { name := "drawsNone", fn := fun _ => fun
  | [d] => { results := [.lit (.bool true)], args := [d] }
  | _ => none }
def drawsNoneRow : OpenClaim := { program := "ytlncodfolaoilaa", sum := "7a9a8fce6116a1ee0dbc00a54a76d95836ebb195c3a692d8d69ec6cecaeed355", func := "burrow/burrowlaw11.DrawsNone", spec := "drawsNone", unfollowed := true, recurses := true, named := ["math/bits.divideError", "math/bits.overflowError"], apart := false }
def DrawsNoneSaid : Prop := drawsNoneRow.holds Try.pinned (OpenSpec.ofChange drawsNoneSpec)

/-- ITS FALSE NEIGHBOUR: 'it returns false'. Refute it at one input. -/
def drawsNoneWrong : ChangeSpec := { name := "drawsNone", fn := fun _ => fun
  | [d] => { results := [.lit (.bool false)], args := [d] }
  | _ => none }
def DrawsNoneWrongFalsely : Prop := drawsNoneRow.holds Try.pinned (OpenSpec.ofChange drawsNoneWrong)

/-- 'burrowlaw11.DrawsAlike': WHATEVER THE INPUT: true; the input reads as it did. -/
def drawsAlikeSpec : ChangeSpec := { name := "drawsAlike", fn := fun _ => fun
  | [d1, d2, d3] => { results := [.lit (.bool true)], args := [d1, d2, d3] }
  | _ => none }
def drawsAlikeRow : OpenClaim := { program := "ytlncodfolaoilaa", sum := "7a9a8fce6116a1ee0dbc00a54a76d95836ebb195c3a692d8d69ec6cecaeed355", func := "burrow/burrowlaw11.DrawsAlike", spec := "drawsAlike", unfollowed := true, recurses := true, named := ["math/bits.divideError", "math/bits.overflowError"], apart := false }
def DrawsAlikeSaid : Prop := drawsAlikeRow.holds Try.pinned (OpenSpec.ofChange drawsAlikeSpec)

/-- ITS FALSE NEIGHBOUR: 'it returns false'. Refute it at one input. -/
def drawsAlikeWrong : ChangeSpec := { name := "drawsAlike", fn := fun _ => fun
  | [d1, d2, d3] => { results := [.lit (.bool false)], args := [d1, d2, d3] }
  | _ => none }
def DrawsAlikeWrongFalsely : Prop := drawsAlikeRow.holds Try.pinned (OpenSpec.ofChange drawsAlikeWrong)

/-- 'burrowlaw11.DrawsWithin': WHATEVER THE INPUT: true; the input reads as it did. -/
def drawsWithinSpec : ChangeSpec := { name := "drawsWithin", fn := fun _ => fun
  | [d1, d2, d3] => { results := [.lit (.bool true)], args := [d1, d2, d3] }
  | _ => none }
def drawsWithinRow : OpenClaim := { program := "ytlncodfolaoilaa", sum := "7a9a8fce6116a1ee0dbc00a54a76d95836ebb195c3a692d8d69ec6cecaeed355", func := "burrow/burrowlaw11.DrawsWithin", spec := "drawsWithin", unfollowed := true, recurses := true, named := ["math/bits.divideError", "math/bits.overflowError"], apart := false }
def DrawsWithinSaid : Prop := drawsWithinRow.holds Try.pinned (OpenSpec.ofChange drawsWithinSpec)

/-- ITS FALSE NEIGHBOUR: 'it returns false'. Refute it at one input. -/
def drawsWithinWrong : ChangeSpec := { name := "drawsWithin", fn := fun _ => fun
  | [d1, d2, d3] => { results := [.lit (.bool false)], args := [d1, d2, d3] }
  | _ => none }
def DrawsWithinWrongFalsely : Prop := drawsWithinRow.holds Try.pinned (OpenSpec.ofChange drawsWithinWrong)

/- THE SECOND FORM. 'bulk': how many values and letters a reading holds, each counted each time it is reached (what is shared counts as often as it is met; a slice's spare places count too). A statement '..UptoSaid' is the law's where the arguments, and the package variables that the reading takes, are together of bulk at most 1048576: NARROWER than '..Said'. Prove '..Said' where nothing that the law and all that it calls make is longer than what came in: it says more and counts as full. Else prove '..UptoSaid'. A law counts once. -/
mutual
def uptoBulk {H : Type} : DataW H → Nat
  | .lit (.string bytes) => bytes.length + 1
  | .lit _ => 1
  | .nil => 1
  | .ptr d => uptoBulk d + 1
  | .slice elems spare => uptoBulkAll elems + uptoBulkAll spare + 1
  | .agg parts => uptoBulkAll parts + 1
  | .iface _ d => uptoBulk d + 1
  | .map entries => uptoBulkEntries entries + 1
  | .held _ => 1
def uptoBulkAll {H : Type} : List (DataW H) → Nat
  | [] => 0
  | d :: r => uptoBulk d + uptoBulkAll r
def uptoBulkEntries {H : Type} : List (Lit × DataW H) → Nat
  | [] => 0
  | x :: r => uptoBulkEntry x + uptoBulkEntries r
def uptoBulkEntry {H : Type} : Lit × DataW H → Nat
  | (.string bytes, d) => bytes.length + uptoBulk d + 1
  | (_, d) => uptoBulk d + 1
 end
def uptoSmall : (H : Type) → List (DataW H) → Bool := fun _ ds => decide (uptoBulkAll ds ≤ 1048576)
def OpenSpec.upto (s : _root_.Go.ChangeSpec) : _root_.Go.OpenSpec := { _root_.Go.OpenSpec.ofChange s with cond := some uptoSmall }

/-- 'burrowlaw05.ShasNone', WHERE WHAT IT READS IS OF BULK AT MOST 1048576: true; the input reads as it did. -/
def shasNoneUptoRow : OpenClaim := { program := "ytlncodfolaoilaa", sum := "7a9a8fce6116a1ee0dbc00a54a76d95836ebb195c3a692d8d69ec6cecaeed355", func := "burrow/burrowlaw05.ShasNone", spec := "shasNone", unfollowed := true, recurses := true, apart := false, narrowed := true }
def ShasNoneUptoSaid : Prop := shasNoneUptoRow.holds Try.pinned (OpenSpec.upto shasNoneSpec)

/-- 'burrowlaw05.ShasOf', WHERE WHAT IT READS IS OF BULK AT MOST 1048576: true; the input reads as it did. -/
def shasOfUptoRow : OpenClaim := { program := "ytlncodfolaoilaa", sum := "7a9a8fce6116a1ee0dbc00a54a76d95836ebb195c3a692d8d69ec6cecaeed355", func := "burrow/burrowlaw05.ShasOf", spec := "shasOf", unfollowed := true, recurses := true, apart := false, narrowed := true }
def ShasOfUptoSaid : Prop := shasOfUptoRow.holds Try.pinned (OpenSpec.upto shasOfSpec)

/-- 'burrowlaw08.MacsKey', WHERE WHAT IT READS IS OF BULK AT MOST 1048576: true; the input reads as it did. -/
def macsKeyUptoRow : OpenClaim := { program := "ytlncodfolaoilaa", sum := "7a9a8fce6116a1ee0dbc00a54a76d95836ebb195c3a692d8d69ec6cecaeed355", func := "burrow/burrowlaw08.MacsKey", spec := "macsKey", unfollowed := true, recurses := true, apart := false, narrowed := true }
def MacsKeyUptoSaid : Prop := macsKeyUptoRow.holds Try.pinned (OpenSpec.upto macsKeySpec)

/-- 'burrowlaw08.MacsSame', WHERE WHAT IT READS IS OF BULK AT MOST 1048576: true; the input reads as it did. -/
def macsSameUptoRow : OpenClaim := { program := "ytlncodfolaoilaa", sum := "7a9a8fce6116a1ee0dbc00a54a76d95836ebb195c3a692d8d69ec6cecaeed355", func := "burrow/burrowlaw08.MacsSame", spec := "macsSame", unfollowed := true, recurses := true, apart := false, narrowed := true }
def MacsSameUptoSaid : Prop := macsSameUptoRow.holds Try.pinned (OpenSpec.upto macsSameSpec)

/-- 'burrowlaw15.PuzzlesMake', WHERE WHAT IT READS IS OF BULK AT MOST 1048576: true; the input reads as it did. -/
def puzzlesMakeUptoRow : OpenClaim := { program := "ytlncodfolaoilaa", sum := "7a9a8fce6116a1ee0dbc00a54a76d95836ebb195c3a692d8d69ec6cecaeed355", func := "burrow/burrowlaw15.PuzzlesMake", spec := "puzzlesMake", unfollowed := true, recurses := true, apart := false, narrowed := true }
def PuzzlesMakeUptoSaid : Prop := puzzlesMakeUptoRow.holds Try.pinned (OpenSpec.upto puzzlesMakeSpec)

/-- 'burrowlaw15.PuzzlesCheck', WHERE WHAT IT READS IS OF BULK AT MOST 1048576: true; the input reads as it did. -/
def puzzlesCheckUptoRow : OpenClaim := { program := "ytlncodfolaoilaa", sum := "7a9a8fce6116a1ee0dbc00a54a76d95836ebb195c3a692d8d69ec6cecaeed355", func := "burrow/burrowlaw15.PuzzlesCheck", spec := "puzzlesCheck", unfollowed := true, recurses := true, apart := false, narrowed := true }
def PuzzlesCheckUptoSaid : Prop := puzzlesCheckUptoRow.holds Try.pinned (OpenSpec.upto puzzlesCheckSpec)

/-- 'burrowlaw15.PuzzlesSolve', WHERE WHAT IT READS IS OF BULK AT MOST 1048576: true; the input reads as it did. -/
def puzzlesSolveUptoRow : OpenClaim := { program := "ytlncodfolaoilaa", sum := "7a9a8fce6116a1ee0dbc00a54a76d95836ebb195c3a692d8d69ec6cecaeed355", func := "burrow/burrowlaw15.PuzzlesSolve", spec := "puzzlesSolve", unfollowed := true, recurses := true, apart := false, narrowed := true }
def PuzzlesSolveUptoSaid : Prop := puzzlesSolveUptoRow.holds Try.pinned (OpenSpec.upto puzzlesSolveSpec)

/-- 'burrowlaw15.PuzzlesSame', WHERE WHAT IT READS IS OF BULK AT MOST 1048576: true; the input reads as it did. -/
def puzzlesSameUptoRow : OpenClaim := { program := "ytlncodfolaoilaa", sum := "7a9a8fce6116a1ee0dbc00a54a76d95836ebb195c3a692d8d69ec6cecaeed355", func := "burrow/burrowlaw15.PuzzlesSame", spec := "puzzlesSame", unfollowed := true, recurses := true, apart := false, narrowed := true }
def PuzzlesSameUptoSaid : Prop := puzzlesSameUptoRow.holds Try.pinned (OpenSpec.upto puzzlesSameSpec)

/-- 'burrowlaw15.PuzzlesBits', WHERE WHAT IT READS IS OF BULK AT MOST 1048576: true; the input reads as it did. -/
def puzzlesBitsUptoRow : OpenClaim := { program := "ytlncodfolaoilaa", sum := "7a9a8fce6116a1ee0dbc00a54a76d95836ebb195c3a692d8d69ec6cecaeed355", func := "burrow/burrowlaw15.PuzzlesBits", spec := "puzzlesBits", unfollowed := true, recurses := true, apart := false, narrowed := true }
def PuzzlesBitsUptoSaid : Prop := puzzlesBitsUptoRow.holds Try.pinned (OpenSpec.upto puzzlesBitsSpec)

/-- 'burrowlaw11.DrawsNone', WHERE WHAT IT READS IS OF BULK AT MOST 1048576: true; the input reads as it did. -/
def drawsNoneUptoRow : OpenClaim := { program := "ytlncodfolaoilaa", sum := "7a9a8fce6116a1ee0dbc00a54a76d95836ebb195c3a692d8d69ec6cecaeed355", func := "burrow/burrowlaw11.DrawsNone", spec := "drawsNone", unfollowed := true, recurses := true, named := ["math/bits.divideError", "math/bits.overflowError"], apart := false, narrowed := true }
def DrawsNoneUptoSaid : Prop := drawsNoneUptoRow.holds Try.pinned (OpenSpec.upto drawsNoneSpec)

/-- 'burrowlaw11.DrawsAlike', WHERE WHAT IT READS IS OF BULK AT MOST 1048576: true; the input reads as it did. -/
def drawsAlikeUptoRow : OpenClaim := { program := "ytlncodfolaoilaa", sum := "7a9a8fce6116a1ee0dbc00a54a76d95836ebb195c3a692d8d69ec6cecaeed355", func := "burrow/burrowlaw11.DrawsAlike", spec := "drawsAlike", unfollowed := true, recurses := true, named := ["math/bits.divideError", "math/bits.overflowError"], apart := false, narrowed := true }
def DrawsAlikeUptoSaid : Prop := drawsAlikeUptoRow.holds Try.pinned (OpenSpec.upto drawsAlikeSpec)

/-- 'burrowlaw11.DrawsWithin', WHERE WHAT IT READS IS OF BULK AT MOST 1048576: true; the input reads as it did. -/
def drawsWithinUptoRow : OpenClaim := { program := "ytlncodfolaoilaa", sum := "7a9a8fce6116a1ee0dbc00a54a76d95836ebb195c3a692d8d69ec6cecaeed355", func := "burrow/burrowlaw11.DrawsWithin", spec := "drawsWithin", unfollowed := true, recurses := true, named := ["math/bits.divideError", "math/bits.overflowError"], apart := false, narrowed := true }
def DrawsWithinUptoSaid : Prop := drawsWithinUptoRow.holds Try.pinned (OpenSpec.upto drawsWithinSpec)

end Rows
end Go.Proofs.Ytlncodfolaoilaa
