/-
  No cell of these rows narrows 'for every input' (looked for: loops, veiled, ifaces, maps, wideKeys, modest, calm, conditions, laid).
  DERIVED. THE GIVEN ROWS OF THIS SEAT. 8 by the template 'for every input the law returns true; each argument reads behind the call as it read before'; 0 by the template 'total and deterministic' (their statements: YtmbbkmljmienjaaTotals.lean).
  GIVEN WITH THE SEED: the statements are not yours to turn. If you find one false, say at which input.
  Laid BY PROGRAM, IN A SANDBOX (cutbox-rows.mjs): the forced cells as the released guide's own fill.sh prints them over the translation 67ad4236aafe86d8… (all of the seat's roots in one cut). By AI agents, Wed Nov 11 2026. No macro, syntax, notation, axiom, sorry.
-/
import Derived.Test.YtmbbkmljmienjaaChecked
import GoSem.Claim
import GoSem.ClaimJoined
import GoSem.ClaimMapViews
import Derived.JoinedTies
import Derived.KernelRfl
namespace Go.Proofs.Ytmbbkmljmienjaa
/- THE CELL 'sum', in the pinned program and in every row, IS THE sha256 OF THE DUMP (.gsa) THAT YtmbbkmljmienjaaProg.lean LOADS. Nothing in Lean hashes anything: it is a label: what it is worth is what the hold of that sum in a sandbox is worth. -/
noncomputable def Try.pinned : Pinned := { name := "ytmbbkmljmienjaa", sum := "67ad4236aafe86d8f1f222086fb8949668baf8d605b6ffef70fb03048c46553f", checked := Try.checked }
namespace Rows
def none {H : Type} : Left H := { results := [], args := [] }

/-- 'burrowlaw08.MacsOf': WHATEVER THE INPUT: true; the input reads as it did. -/
def macsOfSpec : ChangeSpec := { name := "macsOf", fn := fun _ => fun
  | [d1, d2] => { results := [.lit (.bool true)], args := [d1, d2] }
  | _ => none }
def macsOfRow : OpenClaim := { program := "ytmbbkmljmienjaa", sum := "67ad4236aafe86d8f1f222086fb8949668baf8d605b6ffef70fb03048c46553f", func := "burrow/burrowlaw08.MacsOf", spec := "macsOf", unfollowed := true, recurses := true, apart := false }
def MacsOfSaid : Prop := macsOfRow.holds Try.pinned (OpenSpec.ofChange macsOfSpec)

/-- ITS FALSE NEIGHBOUR: 'it returns false'. Refute it at one input. -/
def macsOfWrong : ChangeSpec := { name := "macsOf", fn := fun _ => fun
  | [d1, d2] => { results := [.lit (.bool false)], args := [d1, d2] }
  | _ => none }
def MacsOfWrongFalsely : Prop := macsOfRow.holds Try.pinned (OpenSpec.ofChange macsOfWrong)

/-- 'burrowlaw08.MacsParts': WHATEVER THE INPUT: true; the input reads as it did. -/
def macsPartsSpec : ChangeSpec := { name := "macsParts", fn := fun _ => fun
  | [d1, d2, d3] => { results := [.lit (.bool true)], args := [d1, d2, d3] }
  | _ => none }
def macsPartsRow : OpenClaim := { program := "ytmbbkmljmienjaa", sum := "67ad4236aafe86d8f1f222086fb8949668baf8d605b6ffef70fb03048c46553f", func := "burrow/burrowlaw08.MacsParts", spec := "macsParts", unfollowed := true, recurses := true, apart := false }
def MacsPartsSaid : Prop := macsPartsRow.holds Try.pinned (OpenSpec.ofChange macsPartsSpec)

/-- ITS FALSE NEIGHBOUR: 'it returns false'. Refute it at one input. -/
def macsPartsWrong : ChangeSpec := { name := "macsParts", fn := fun _ => fun
  | [d1, d2, d3] => { results := [.lit (.bool false)], args := [d1, d2, d3] }
  | _ => none }
def MacsPartsWrongFalsely : Prop := macsPartsRow.holds Try.pinned (OpenSpec.ofChange macsPartsWrong)

/-- 'burrowlaw05.ShasAs': WHATEVER THE INPUT: true; the input reads as it did. -/
def shasAsSpec : ChangeSpec := { name := "shasAs", fn := fun _ => fun
  | [d1, d2, d3] => { results := [.lit (.bool true)], args := [d1, d2, d3] }
  | _ => none }
def shasAsRow : OpenClaim := { program := "ytmbbkmljmienjaa", sum := "67ad4236aafe86d8f1f222086fb8949668baf8d605b6ffef70fb03048c46553f", func := "burrow/burrowlaw05.ShasAs", spec := "shasAs", unfollowed := true, recurses := true, named := ["math/bits.divideError", "math/bits.overflowError"], apart := false }
def ShasAsSaid : Prop := shasAsRow.holds Try.pinned (OpenSpec.ofChange shasAsSpec)

/-- ITS FALSE NEIGHBOUR: 'it returns false'. Refute it at one input. -/
def shasAsWrong : ChangeSpec := { name := "shasAs", fn := fun _ => fun
  | [d1, d2, d3] => { results := [.lit (.bool false)], args := [d1, d2, d3] }
  | _ => none }
def ShasAsWrongFalsely : Prop := shasAsRow.holds Try.pinned (OpenSpec.ofChange shasAsWrong)

/-- 'burrowlaw05.ShasBytes': WHATEVER THE INPUT: true; the input reads as it did. -/
def shasBytesSpec : ChangeSpec := { name := "shasBytes", fn := fun _ => fun
  | [d1, d2, d3] => { results := [.lit (.bool true)], args := [d1, d2, d3] }
  | _ => none }
def shasBytesRow : OpenClaim := { program := "ytmbbkmljmienjaa", sum := "67ad4236aafe86d8f1f222086fb8949668baf8d605b6ffef70fb03048c46553f", func := "burrow/burrowlaw05.ShasBytes", spec := "shasBytes", unfollowed := true, recurses := true, named := ["math/bits.divideError", "math/bits.overflowError"], apart := false }
def ShasBytesSaid : Prop := shasBytesRow.holds Try.pinned (OpenSpec.ofChange shasBytesSpec)

/-- ITS FALSE NEIGHBOUR: 'it returns false'. Refute it at one input. -/
def shasBytesWrong : ChangeSpec := { name := "shasBytes", fn := fun _ => fun
  | [d1, d2, d3] => { results := [.lit (.bool false)], args := [d1, d2, d3] }
  | _ => none }
def ShasBytesWrongFalsely : Prop := shasBytesRow.holds Try.pinned (OpenSpec.ofChange shasBytesWrong)

/-- 'burrowlaw05.ShasHalves': WHATEVER THE INPUT: true; the input reads as it did. -/
def shasHalvesSpec : ChangeSpec := { name := "shasHalves", fn := fun _ => fun
  | [d1, d2, d3] => { results := [.lit (.bool true)], args := [d1, d2, d3] }
  | _ => none }
def shasHalvesRow : OpenClaim := { program := "ytmbbkmljmienjaa", sum := "67ad4236aafe86d8f1f222086fb8949668baf8d605b6ffef70fb03048c46553f", func := "burrow/burrowlaw05.ShasHalves", spec := "shasHalves", unfollowed := true, recurses := true, named := ["math/bits.divideError", "math/bits.overflowError"], apart := false }
def ShasHalvesSaid : Prop := shasHalvesRow.holds Try.pinned (OpenSpec.ofChange shasHalvesSpec)

/-- ITS FALSE NEIGHBOUR: 'it returns false'. Refute it at one input. -/
def shasHalvesWrong : ChangeSpec := { name := "shasHalves", fn := fun _ => fun
  | [d1, d2, d3] => { results := [.lit (.bool false)], args := [d1, d2, d3] }
  | _ => none }
def ShasHalvesWrongFalsely : Prop := shasHalvesRow.holds Try.pinned (OpenSpec.ofChange shasHalvesWrong)

/-- 'burrowlaw05.ShasNumber': WHATEVER THE INPUT: true; the input reads as it did. -/
def shasNumberSpec : ChangeSpec := { name := "shasNumber", fn := fun _ => fun
  | [d1, d2, d3] => { results := [.lit (.bool true)], args := [d1, d2, d3] }
  | _ => none }
def shasNumberRow : OpenClaim := { program := "ytmbbkmljmienjaa", sum := "67ad4236aafe86d8f1f222086fb8949668baf8d605b6ffef70fb03048c46553f", func := "burrow/burrowlaw05.ShasNumber", spec := "shasNumber", unfollowed := true, recurses := true, named := ["math/bits.divideError", "math/bits.overflowError"], apart := false }
def ShasNumberSaid : Prop := shasNumberRow.holds Try.pinned (OpenSpec.ofChange shasNumberSpec)

/-- ITS FALSE NEIGHBOUR: 'it returns false'. Refute it at one input. -/
def shasNumberWrong : ChangeSpec := { name := "shasNumber", fn := fun _ => fun
  | [d1, d2, d3] => { results := [.lit (.bool false)], args := [d1, d2, d3] }
  | _ => none }
def ShasNumberWrongFalsely : Prop := shasNumberRow.holds Try.pinned (OpenSpec.ofChange shasNumberWrong)

/-- 'burrowlaw11.DrawsPlay': WHATEVER THE INPUT: true; the input reads as it did. -/
def drawsPlaySpec : ChangeSpec := { name := "drawsPlay", fn := fun _ => fun
  | [d1, d2, d3] => { results := [.lit (.bool true)], args := [d1, d2, d3] }
  | _ => none }
def drawsPlayRow : OpenClaim := { program := "ytmbbkmljmienjaa", sum := "67ad4236aafe86d8f1f222086fb8949668baf8d605b6ffef70fb03048c46553f", func := "burrow/burrowlaw11.DrawsPlay", spec := "drawsPlay", unfollowed := true, recurses := true, named := ["math/bits.divideError", "math/bits.overflowError"], apart := false }
def DrawsPlaySaid : Prop := drawsPlayRow.holds Try.pinned (OpenSpec.ofChange drawsPlaySpec)

/-- ITS FALSE NEIGHBOUR: 'it returns false'. Refute it at one input. -/
def drawsPlayWrong : ChangeSpec := { name := "drawsPlay", fn := fun _ => fun
  | [d1, d2, d3] => { results := [.lit (.bool false)], args := [d1, d2, d3] }
  | _ => none }
def DrawsPlayWrongFalsely : Prop := drawsPlayRow.holds Try.pinned (OpenSpec.ofChange drawsPlayWrong)

/-- 'burrowlaw11.DrawsTurns': WHATEVER THE INPUT: true; the input reads as it did. -/
def drawsTurnsSpec : ChangeSpec := { name := "drawsTurns", fn := fun _ => fun
  | [d1, d2, d3] => { results := [.lit (.bool true)], args := [d1, d2, d3] }
  | _ => none }
def drawsTurnsRow : OpenClaim := { program := "ytmbbkmljmienjaa", sum := "67ad4236aafe86d8f1f222086fb8949668baf8d605b6ffef70fb03048c46553f", func := "burrow/burrowlaw11.DrawsTurns", spec := "drawsTurns", unfollowed := true, recurses := true, named := ["math/bits.divideError", "math/bits.overflowError"], apart := false }
def DrawsTurnsSaid : Prop := drawsTurnsRow.holds Try.pinned (OpenSpec.ofChange drawsTurnsSpec)

/-- ITS FALSE NEIGHBOUR: 'it returns false'. Refute it at one input. -/
def drawsTurnsWrong : ChangeSpec := { name := "drawsTurns", fn := fun _ => fun
  | [d1, d2, d3] => { results := [.lit (.bool false)], args := [d1, d2, d3] }
  | _ => none }
def DrawsTurnsWrongFalsely : Prop := drawsTurnsRow.holds Try.pinned (OpenSpec.ofChange drawsTurnsWrong)

/- THE SECOND FORM. 'bulk': how many values and letters a reading holds, each counted each time it is reached (what is shared counts as often as it is met; a slice's spare places count too). A statement '..UptoSaid' is the law's where the arguments, and the package variables that the reading takes, are together of bulk at most 1048576: NARROWER than '..Said'. Prove '..Said' where nothing that the law and all that it calls make is longer than what came in: it says more and counts as full. Else prove '..UptoSaid'. A law counts once. -/
mutual
def uptoBulk {H : Type} : DataW H → Nat
  | .lit (.string bytes) => bytes.length + 1
  | .lit _ => 1
  | .nil => 1
  | .ptr d => uptoBulk d + 1
  | .slice elems spare => uptoBulkAll elems + uptoBulkAll spare + 1
  | .agg parts => uptoBulkAll parts + 1
  | .iface _ d => uptoBulk d + 1
  | .map entries => uptoBulkEntries entries + 1
  | .held _ => 1
def uptoBulkAll {H : Type} : List (DataW H) → Nat
  | [] => 0
  | d :: r => uptoBulk d + uptoBulkAll r
def uptoBulkEntries {H : Type} : List (Lit × DataW H) → Nat
  | [] => 0
  | x :: r => uptoBulkEntry x + uptoBulkEntries r
def uptoBulkEntry {H : Type} : Lit × DataW H → Nat
  | (.string bytes, d) => bytes.length + uptoBulk d + 1
  | (_, d) => uptoBulk d + 1
 end
def uptoSmall : (H : Type) → List (DataW H) → Bool := fun _ ds => decide (uptoBulkAll ds ≤ 1048576)
def OpenSpec.upto (s : _root_.Go.ChangeSpec) : _root_.Go.OpenSpec := { _root_.Go.OpenSpec.ofChange s with cond := some uptoSmall }

/-- 'burrowlaw08.MacsOf', WHERE WHAT IT READS IS OF BULK AT MOST 1048576: true; the input reads as it did. -/
def macsOfUptoRow : OpenClaim := { program := "ytmbbkmljmienjaa", sum := "67ad4236aafe86d8f1f222086fb8949668baf8d605b6ffef70fb03048c46553f", func := "burrow/burrowlaw08.MacsOf", spec := "macsOf", unfollowed := true, recurses := true, apart := false, narrowed := true }
def MacsOfUptoSaid : Prop := macsOfUptoRow.holds Try.pinned (OpenSpec.upto macsOfSpec)

/-- 'burrowlaw08.MacsParts', WHERE WHAT IT READS IS OF BULK AT MOST 1048576: true; the input reads as it did. -/
def macsPartsUptoRow : OpenClaim := { program := "ytmbbkmljmienjaa", sum := "67ad4236aafe86d8f1f222086fb8949668baf8d605b6ffef70fb03048c46553f", func := "burrow/burrowlaw08.MacsParts", spec := "macsParts", unfollowed := true, recurses := true, apart := false, narrowed := true }
def MacsPartsUptoSaid : Prop := macsPartsUptoRow.holds Try.pinned (OpenSpec.upto macsPartsSpec)

/-- 'burrowlaw05.ShasAs', WHERE WHAT IT READS IS OF BULK AT MOST 1048576: true; the input reads as it did. -/
def shasAsUptoRow : OpenClaim := { program := "ytmbbkmljmienjaa", sum := "67ad4236aafe86d8f1f222086fb8949668baf8d605b6ffef70fb03048c46553f", func := "burrow/burrowlaw05.ShasAs", spec := "shasAs", unfollowed := true, recurses := true, named := ["math/bits.divideError", "math/bits.overflowError"], apart := false, narrowed := true }
def ShasAsUptoSaid : Prop := shasAsUptoRow.holds Try.pinned (OpenSpec.upto shasAsSpec)

/-- 'burrowlaw05.ShasBytes', WHERE WHAT IT READS IS OF BULK AT MOST 1048576: true; the input reads as it did. -/
def shasBytesUptoRow : OpenClaim := { program := "ytmbbkmljmienjaa", sum := "67ad4236aafe86d8f1f222086fb8949668baf8d605b6ffef70fb03048c46553f", func := "burrow/burrowlaw05.ShasBytes", spec := "shasBytes", unfollowed := true, recurses := true, named := ["math/bits.divideError", "math/bits.overflowError"], apart := false, narrowed := true }
def ShasBytesUptoSaid : Prop := shasBytesUptoRow.holds Try.pinned (OpenSpec.upto shasBytesSpec)

/-- 'burrowlaw05.ShasHalves', WHERE WHAT IT READS IS OF BULK AT MOST 1048576: true; the input reads as it did. -/
def shasHalvesUptoRow : OpenClaim := { program := "ytmbbkmljmienjaa", sum := "67ad4236aafe86d8f1f222086fb8949668baf8d605b6ffef70fb03048c46553f", func := "burrow/burrowlaw05.ShasHalves", spec := "shasHalves", unfollowed := true, recurses := true, named := ["math/bits.divideError", "math/bits.overflowError"], apart := false, narrowed := true }
def ShasHalvesUptoSaid : Prop := shasHalvesUptoRow.holds Try.pinned (OpenSpec.upto shasHalvesSpec)

/-- 'burrowlaw05.ShasNumber', WHERE WHAT IT READS IS OF BULK AT MOST 1048576: true; the input reads as it did. -/
def shasNumberUptoRow : OpenClaim := { program := "ytmbbkmljmienjaa", sum := "67ad4236aafe86d8f1f222086fb8949668baf8d605b6ffef70fb03048c46553f", func := "burrow/burrowlaw05.ShasNumber", spec := "shasNumber", unfollowed := true, recurses := true, named := ["math/bits.divideError", "math/bits.overflowError"], apart := false, narrowed := true }
def ShasNumberUptoSaid : Prop := shasNumberUptoRow.holds Try.pinned (OpenSpec.upto shasNumberSpec)

/-- 'burrowlaw11.DrawsPlay', WHERE WHAT IT READS IS OF BULK AT MOST 1048576: true; the input reads as it did. -/
def drawsPlayUptoRow : OpenClaim := { program := "ytmbbkmljmienjaa", sum := "67ad4236aafe86d8f1f222086fb8949668baf8d605b6ffef70fb03048c46553f", func := "burrow/burrowlaw11.DrawsPlay", spec := "drawsPlay", unfollowed := true, recurses := true, named := ["math/bits.divideError", "math/bits.overflowError"], apart := false, narrowed := true }
def DrawsPlayUptoSaid : Prop := drawsPlayUptoRow.holds Try.pinned (OpenSpec.upto drawsPlaySpec)

/-- 'burrowlaw11.DrawsTurns', WHERE WHAT IT READS IS OF BULK AT MOST 1048576: true; the input reads as it did. -/
def drawsTurnsUptoRow : OpenClaim := { program := "ytmbbkmljmienjaa", sum := "67ad4236aafe86d8f1f222086fb8949668baf8d605b6ffef70fb03048c46553f", func := "burrow/burrowlaw11.DrawsTurns", spec := "drawsTurns", unfollowed := true, recurses := true, named := ["math/bits.divideError", "math/bits.overflowError"], apart := false, narrowed := true }
def DrawsTurnsUptoSaid : Prop := drawsTurnsUptoRow.holds Try.pinned (OpenSpec.upto drawsTurnsSpec)

end Rows
end Go.Proofs.Ytmbbkmljmienjaa
