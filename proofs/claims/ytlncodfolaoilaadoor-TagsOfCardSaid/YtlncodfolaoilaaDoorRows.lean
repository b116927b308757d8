/-
  NARROWER THAN 'FOR EVERY INPUT', by the rows' own cells (each row's printed sentence says how): TagsOf: laid · TagsSum: laid.
  DERIVED. THE GIVEN ROWS OF THIS SEAT. 2 by the template 'for every input the law returns true; each argument reads behind the call as it read before'; 0 by the template 'total and deterministic' (their statements: YtlncodfolaoilaaDoorTotals.lean).
  GIVEN WITH THE SEED: the statements are not yours to turn. If you find one false, say at which input.
  Laid BY PROGRAM, IN A SANDBOX (cutbox-rows.mjs): the forced cells as the released guide's own fill.sh prints them over the translation 8321a964f41c2b39… (all of the seat's roots in one cut). By AI agents, Wed Nov 11 2026. No macro, syntax, notation, axiom, sorry.
-/
import Derived.Test.YtlncodfolaoilaaDoorChecked
import GoSem.Claim
import GoSem.ClaimJoined
import GoSem.ClaimMapViews
import Derived.JoinedTies
import Derived.KernelRfl
namespace Go.Proofs.YtlncodfolaoilaaDoor
/- THE CELL 'sum', in the pinned program and in every row, IS THE sha256 OF THE DUMP (.gsa) THAT YtlncodfolaoilaaDoorProg.lean LOADS. Nothing in Lean hashes anything: it is a label: what it is worth is what the hold of that sum in a sandbox is worth. -/
noncomputable def Tryd.pinned : Pinned := { name := "ytlncodfolaoilaadoor", sum := "8321a964f41c2b391072aa29a41dedc2766029e7e0a8cc2ba96052c170d38c1e", checked := Tryd.checked }
namespace Rows
def none {H : Type} : Left H := { results := [], args := [] }

/- WHAT THE LISTED PACKAGE-LEVEL VARIABLES READ AS WHEN THE CALL BEGINS. Each datum BY PROGRAM (the guide's laid-datum.mjs) off the statement by which the dump's own 'gosem.cut.vars' lays the variable. In a bare row this is a premise. The card (YtlncodfolaoilaaDoorCards.lean) ties it to the program's text. -/
def laid_burrow_tags_shifts {H : Type} : DataW H := .agg [.lit (.int .i64 12), .lit (.int .i64 8), .lit (.int .i64 4), .lit (.int .i64 0)]

/-- 'burrowlaw12.TagsOf': WHATEVER THE INPUT: true; the input reads as it did. -/
def tagsOfSpec : ChangeSpec := { name := "tagsOf", fn := fun _ => fun
  | [d1, d2, d3] => { results := [.lit (.bool true)], args := [d1, d2, d3] }
  | _ => none }
def tagsOfRow : OpenClaim := { program := "ytlncodfolaoilaadoor", sum := "8321a964f41c2b391072aa29a41dedc2766029e7e0a8cc2ba96052c170d38c1e", func := "burrow/burrowlaw12.TagsOf", spec := "tagsOf", unfollowed := true, recurses := true, named := ["burrow/tags.shifts"], apart := false, laid := [("burrow/tags.shifts", laid_burrow_tags_shifts)] }
def TagsOfSaid : Prop := tagsOfRow.holds Tryd.pinned (OpenSpec.ofChange tagsOfSpec)

/-- ITS FALSE NEIGHBOUR: 'it returns false'. Refute it at one input. -/
def tagsOfWrong : ChangeSpec := { name := "tagsOf", fn := fun _ => fun
  | [d1, d2, d3] => { results := [.lit (.bool false)], args := [d1, d2, d3] }
  | _ => none }
def TagsOfWrongFalsely : Prop := tagsOfRow.holds Tryd.pinned (OpenSpec.ofChange tagsOfWrong)

/-- 'burrowlaw12.TagsSum': WHATEVER THE INPUT: true; the input reads as it did. -/
def tagsSumSpec : ChangeSpec := { name := "tagsSum", fn := fun _ => fun
  | [d] => { results := [.lit (.bool true)], args := [d] }
  | _ => none }
def tagsSumRow : OpenClaim := { program := "ytlncodfolaoilaadoor", sum := "8321a964f41c2b391072aa29a41dedc2766029e7e0a8cc2ba96052c170d38c1e", func := "burrow/burrowlaw12.TagsSum", spec := "tagsSum", unfollowed := true, recurses := true, named := ["burrow/tags.shifts"], apart := false, laid := [("burrow/tags.shifts", laid_burrow_tags_shifts)] }
def TagsSumSaid : Prop := tagsSumRow.holds Tryd.pinned (OpenSpec.ofChange tagsSumSpec)

/-- ITS FALSE NEIGHBOUR: 'it returns false'. Refute it at one input. -/
def tagsSumWrong : ChangeSpec := { name := "tagsSum", fn := fun _ => fun
  | [d] => { results := [.lit (.bool false)], args := [d] }
  | _ => none }
def TagsSumWrongFalsely : Prop := tagsSumRow.holds Tryd.pinned (OpenSpec.ofChange tagsSumWrong)

/- THE SECOND FORM. 'bulk': how many values and letters a reading holds, each counted each time it is reached (what is shared counts as often as it is met; a slice's spare places count too). A statement '..UptoSaid' is the law's where the arguments, and the package variables that the reading takes, are together of bulk at most 1048576: NARROWER than '..Said'. Prove '..Said' where nothing that the law and all that it calls make is longer than what came in: it says more and counts as full. Else prove '..UptoSaid'. A law counts once. -/
mutual
def uptoBulk {H : Type} : DataW H → Nat
  | .lit (.string bytes) => bytes.length + 1
  | .lit _ => 1
  | .nil => 1
  | .ptr d => uptoBulk d + 1
  | .slice elems spare => uptoBulkAll elems + uptoBulkAll spare + 1
  | .agg parts => uptoBulkAll parts + 1
  | .iface _ d => uptoBulk d + 1
  | .map entries => uptoBulkEntries entries + 1
  | .held _ => 1
def uptoBulkAll {H : Type} : List (DataW H) → Nat
  | [] => 0
  | d :: r => uptoBulk d + uptoBulkAll r
def uptoBulkEntries {H : Type} : List (Lit × DataW H) → Nat
  | [] => 0
  | x :: r => uptoBulkEntry x + uptoBulkEntries r
def uptoBulkEntry {H : Type} : Lit × DataW H → Nat
  | (.string bytes, d) => bytes.length + uptoBulk d + 1
  | (_, d) => uptoBulk d + 1
 end
def uptoSmall : (H : Type) → List (DataW H) → Bool := fun _ ds => decide (uptoBulkAll ds ≤ 1048576)
def OpenSpec.upto (s : _root_.Go.ChangeSpec) : _root_.Go.OpenSpec := { _root_.Go.OpenSpec.ofChange s with cond := some uptoSmall }

/-- 'burrowlaw12.TagsOf', WHERE WHAT IT READS IS OF BULK AT MOST 1048576: true; the input reads as it did. -/
def tagsOfUptoRow : OpenClaim := { program := "ytlncodfolaoilaadoor", sum := "8321a964f41c2b391072aa29a41dedc2766029e7e0a8cc2ba96052c170d38c1e", func := "burrow/burrowlaw12.TagsOf", spec := "tagsOf", unfollowed := true, recurses := true, named := ["burrow/tags.shifts"], apart := false, laid := [("burrow/tags.shifts", laid_burrow_tags_shifts)], narrowed := true }
def TagsOfUptoSaid : Prop := tagsOfUptoRow.holds Tryd.pinned (OpenSpec.upto tagsOfSpec)

/-- 'burrowlaw12.TagsSum', WHERE WHAT IT READS IS OF BULK AT MOST 1048576: true; the input reads as it did. -/
def tagsSumUptoRow : OpenClaim := { program := "ytlncodfolaoilaadoor", sum := "8321a964f41c2b391072aa29a41dedc2766029e7e0a8cc2ba96052c170d38c1e", func := "burrow/burrowlaw12.TagsSum", spec := "tagsSum", unfollowed := true, recurses := true, named := ["burrow/tags.shifts"], apart := false, laid := [("burrow/tags.shifts", laid_burrow_tags_shifts)], narrowed := true }
def TagsSumUptoSaid : Prop := tagsSumUptoRow.holds Tryd.pinned (OpenSpec.upto tagsSumSpec)

end Rows
end Go.Proofs.YtlncodfolaoilaaDoor
