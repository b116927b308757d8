/-
  No cell of these rows narrows 'for every input' (looked for: loops, veiled, ifaces, maps, wideKeys, modest, calm, conditions, laid).
  DERIVED. THE GIVEN ROWS OF THIS SEAT. 29 by the template 'for every input the law returns true; each argument reads behind the call as it read before'; 0 by the template 'total and deterministic' (their statements: YtjkelipglcnpmaaTotals.lean).
  GIVEN WITH THE SEED: the statements are not yours to turn. If you find one false, say at which input.
  Laid BY PROGRAM, IN A SANDBOX (cutbox-rows.mjs): the forced cells as the released guide's own fill.sh prints them over the translation 0d5c7a7d151020a8… (all of the seat's roots in one cut). By AI agents, Wed Nov 11 2026. No macro, syntax, notation, axiom, sorry.
-/
import Derived.Test.YtjkelipglcnpmaaChecked
import GoSem.Claim
import GoSem.ClaimJoined
import GoSem.ClaimMapViews
import Derived.JoinedTies
import Derived.KernelRfl
namespace Go.Proofs.Ytjkelipglcnpmaa
/- THE CELL 'sum', in the pinned program and in every row, IS THE sha256 OF THE DUMP (.gsa) THAT YtjkelipglcnpmaaProg.lean LOADS. Nothing in Lean hashes anything: it is a label: what it is worth is what the hold of that sum in a sandbox is worth. -/
noncomputable def Try.pinned : Pinned := { name := "ytjkelipglcnpmaa", sum := "0d5c7a7d151020a89b903595085a7e5655a5339caebdba6cdf564ea80af9d97d", checked := Try.checked }
namespace Rows
def none {H : Type} : Left H := { results := [], args := [] }

/-- 'burrowlaw02.LimbsReckoned': WHATEVER THE INPUT: true; the input reads as it did. -/
def limbsReckonedSpec : ChangeSpec := { name := "limbsReckoned", fn := fun _ => fun
  | [d1, d2, d3] => { results := [.lit (.bool true)], args := [d1, d2, d3] }
  | _ => none }
def limbsReckonedRow : OpenClaim := { program := "ytjkelipglcnpmaa", sum := "0d5c7a7d151020a89b903595085a7e5655a5339caebdba6cdf564ea80af9d97d", func := "burrow/burrowlaw02.LimbsReckoned", spec := "limbsReckoned", unfollowed := true, recurses := true, apart := false }
def LimbsReckonedSaid : Prop := limbsReckonedRow.holds Try.pinned (OpenSpec.ofChange limbsReckonedSpec)

/-- ITS FALSE NEIGHBOUR: 'it returns false'. Refute it at one input. -/
def limbsReckonedWrong : ChangeSpec := { name := "limbsReckoned", fn := fun _ => fun
  | [d1, d2, d3] => { results := [.lit (.bool false)], args := [d1, d2, d3] }
  | _ => none }
def LimbsReckonedWrongFalsely : Prop := limbsReckonedRow.holds Try.pinned (OpenSpec.ofChange limbsReckonedWrong)

/-- 'burrowlaw02.LimbsTurned': WHATEVER THE INPUT: true; the input reads as it did. -/
def limbsTurnedSpec : ChangeSpec := { name := "limbsTurned", fn := fun _ => fun
  | [d] => { results := [.lit (.bool true)], args := [d] }
  | _ => none }
def limbsTurnedRow : OpenClaim := { program := "ytjkelipglcnpmaa", sum := "0d5c7a7d151020a89b903595085a7e5655a5339caebdba6cdf564ea80af9d97d", func := "burrow/burrowlaw02.LimbsTurned", spec := "limbsTurned", unfollowed := true, recurses := true, apart := false }
def LimbsTurnedSaid : Prop := limbsTurnedRow.holds Try.pinned (OpenSpec.ofChange limbsTurnedSpec)

/-- ITS FALSE NEIGHBOUR: 'it returns false'. Refute it at one input. -/
def limbsTurnedWrong : ChangeSpec := { name := "limbsTurned", fn := fun _ => fun
  | [d] => { results := [.lit (.bool false)], args := [d] }
  | _ => none }
def LimbsTurnedWrongFalsely : Prop := limbsTurnedRow.holds Try.pinned (OpenSpec.ofChange limbsTurnedWrong)

/-- 'burrowlaw02.LimbsSteps': WHATEVER THE INPUT: true; the input reads as it did. -/
def limbsStepsSpec : ChangeSpec := { name := "limbsSteps", fn := fun _ => fun
  | [d1, d2] => { results := [.lit (.bool true)], args := [d1, d2] }
  | _ => none }
def limbsStepsRow : OpenClaim := { program := "ytjkelipglcnpmaa", sum := "0d5c7a7d151020a89b903595085a7e5655a5339caebdba6cdf564ea80af9d97d", func := "burrow/burrowlaw02.LimbsSteps", spec := "limbsSteps", unfollowed := true, recurses := true, apart := false }
def LimbsStepsSaid : Prop := limbsStepsRow.holds Try.pinned (OpenSpec.ofChange limbsStepsSpec)

/-- ITS FALSE NEIGHBOUR: 'it returns false'. Refute it at one input. -/
def limbsStepsWrong : ChangeSpec := { name := "limbsSteps", fn := fun _ => fun
  | [d1, d2] => { results := [.lit (.bool false)], args := [d1, d2] }
  | _ => none }
def LimbsStepsWrongFalsely : Prop := limbsStepsRow.holds Try.pinned (OpenSpec.ofChange limbsStepsWrong)

/-- 'burrowlaw02.LimbsApart': WHATEVER THE INPUT: true; the input reads as it did. -/
def limbsApartSpec : ChangeSpec := { name := "limbsApart", fn := fun _ => fun
  | [d1, d2] => { results := [.lit (.bool true)], args := [d1, d2] }
  | _ => none }
def limbsApartRow : OpenClaim := { program := "ytjkelipglcnpmaa", sum := "0d5c7a7d151020a89b903595085a7e5655a5339caebdba6cdf564ea80af9d97d", func := "burrow/burrowlaw02.LimbsApart", spec := "limbsApart", unfollowed := true, recurses := true, apart := false }
def LimbsApartSaid : Prop := limbsApartRow.holds Try.pinned (OpenSpec.ofChange limbsApartSpec)

/-- ITS FALSE NEIGHBOUR: 'it returns false'. Refute it at one input. -/
def limbsApartWrong : ChangeSpec := { name := "limbsApart", fn := fun _ => fun
  | [d1, d2] => { results := [.lit (.bool false)], args := [d1, d2] }
  | _ => none }
def LimbsApartWrongFalsely : Prop := limbsApartRow.holds Try.pinned (OpenSpec.ofChange limbsApartWrong)

/-- 'burrowlaw02.LimbsSquares': WHATEVER THE INPUT: true; the input reads as it did. -/
def limbsSquaresSpec : ChangeSpec := { name := "limbsSquares", fn := fun _ => fun
  | [d1, d2] => { results := [.lit (.bool true)], args := [d1, d2] }
  | _ => none }
def limbsSquaresRow : OpenClaim := { program := "ytjkelipglcnpmaa", sum := "0d5c7a7d151020a89b903595085a7e5655a5339caebdba6cdf564ea80af9d97d", func := "burrow/burrowlaw02.LimbsSquares", spec := "limbsSquares", unfollowed := true, recurses := true, apart := false }
def LimbsSquaresSaid : Prop := limbsSquaresRow.holds Try.pinned (OpenSpec.ofChange limbsSquaresSpec)

/-- ITS FALSE NEIGHBOUR: 'it returns false'. Refute it at one input. -/
def limbsSquaresWrong : ChangeSpec := { name := "limbsSquares", fn := fun _ => fun
  | [d1, d2] => { results := [.lit (.bool false)], args := [d1, d2] }
  | _ => none }
def LimbsSquaresWrongFalsely : Prop := limbsSquaresRow.holds Try.pinned (OpenSpec.ofChange limbsSquaresWrong)

/-- 'burrowlaw02.LimbsTop': WHATEVER THE INPUT: true; the input reads as it did. -/
def limbsTopSpec : ChangeSpec := { name := "limbsTop", fn := fun _ => fun
  | [d1, d2] => { results := [.lit (.bool true)], args := [d1, d2] }
  | _ => none }
def limbsTopRow : OpenClaim := { program := "ytjkelipglcnpmaa", sum := "0d5c7a7d151020a89b903595085a7e5655a5339caebdba6cdf564ea80af9d97d", func := "burrow/burrowlaw02.LimbsTop", spec := "limbsTop", unfollowed := true, recurses := true, apart := false }
def LimbsTopSaid : Prop := limbsTopRow.holds Try.pinned (OpenSpec.ofChange limbsTopSpec)

/-- ITS FALSE NEIGHBOUR: 'it returns false'. Refute it at one input. -/
def limbsTopWrong : ChangeSpec := { name := "limbsTop", fn := fun _ => fun
  | [d1, d2] => { results := [.lit (.bool false)], args := [d1, d2] }
  | _ => none }
def LimbsTopWrongFalsely : Prop := limbsTopRow.holds Try.pinned (OpenSpec.ofChange limbsTopWrong)

/-- 'burrowlaw02.LimbsMoves': WHATEVER THE INPUT: true; the input reads as it did. -/
def limbsMovesSpec : ChangeSpec := { name := "limbsMoves", fn := fun _ => fun
  | [d1, d2, d3] => { results := [.lit (.bool true)], args := [d1, d2, d3] }
  | _ => none }
def limbsMovesRow : OpenClaim := { program := "ytjkelipglcnpmaa", sum := "0d5c7a7d151020a89b903595085a7e5655a5339caebdba6cdf564ea80af9d97d", func := "burrow/burrowlaw02.LimbsMoves", spec := "limbsMoves", unfollowed := true, recurses := true, apart := false }
def LimbsMovesSaid : Prop := limbsMovesRow.holds Try.pinned (OpenSpec.ofChange limbsMovesSpec)

/-- ITS FALSE NEIGHBOUR: 'it returns false'. Refute it at one input. -/
def limbsMovesWrong : ChangeSpec := { name := "limbsMoves", fn := fun _ => fun
  | [d1, d2, d3] => { results := [.lit (.bool false)], args := [d1, d2, d3] }
  | _ => none }
def LimbsMovesWrongFalsely : Prop := limbsMovesRow.holds Try.pinned (OpenSpec.ofChange limbsMovesWrong)

/-- 'burrowlaw03.DividesReckoned': WHATEVER THE INPUT: true; the input reads as it did. -/
def dividesReckonedSpec : ChangeSpec := { name := "dividesReckoned", fn := fun _ => fun
  | [d1, d2, d3] => { results := [.lit (.bool true)], args := [d1, d2, d3] }
  | _ => none }
def dividesReckonedRow : OpenClaim := { program := "ytjkelipglcnpmaa", sum := "0d5c7a7d151020a89b903595085a7e5655a5339caebdba6cdf564ea80af9d97d", func := "burrow/burrowlaw03.DividesReckoned", spec := "dividesReckoned", recurses := true, named := ["math/bits.divideError", "math/bits.overflowError"], apart := false }
def DividesReckonedSaid : Prop := dividesReckonedRow.holds Try.pinned (OpenSpec.ofChange dividesReckonedSpec)

/-- ITS FALSE NEIGHBOUR: 'it returns false'. Refute it at one input. -/
def dividesReckonedWrong : ChangeSpec := { name := "dividesReckoned", fn := fun _ => fun
  | [d1, d2, d3] => { results := [.lit (.bool false)], args := [d1, d2, d3] }
  | _ => none }
def DividesReckonedWrongFalsely : Prop := dividesReckonedRow.holds Try.pinned (OpenSpec.ofChange dividesReckonedWrong)

/-- 'burrowlaw03.DividesNext': WHATEVER THE INPUT: true; the input reads as it did. -/
def dividesNextSpec : ChangeSpec := { name := "dividesNext", fn := fun _ => fun
  | [d1, d2] => { results := [.lit (.bool true)], args := [d1, d2] }
  | _ => none }
def dividesNextRow : OpenClaim := { program := "ytjkelipglcnpmaa", sum := "0d5c7a7d151020a89b903595085a7e5655a5339caebdba6cdf564ea80af9d97d", func := "burrow/burrowlaw03.DividesNext", spec := "dividesNext", named := ["math/bits.divideError", "math/bits.overflowError"], apart := false }
def DividesNextSaid : Prop := dividesNextRow.holds Try.pinned (OpenSpec.ofChange dividesNextSpec)

/-- ITS FALSE NEIGHBOUR: 'it returns false'. Refute it at one input. -/
def dividesNextWrong : ChangeSpec := { name := "dividesNext", fn := fun _ => fun
  | [d1, d2] => { results := [.lit (.bool false)], args := [d1, d2] }
  | _ => none }
def DividesNextWrongFalsely : Prop := dividesNextRow.holds Try.pinned (OpenSpec.ofChange dividesNextWrong)

/-- 'burrowlaw03.DividesHalved': WHATEVER THE INPUT: true; the input reads as it did. -/
def dividesHalvedSpec : ChangeSpec := { name := "dividesHalved", fn := fun _ => fun
  | [d1, d2, d3] => { results := [.lit (.bool true)], args := [d1, d2, d3] }
  | _ => none }
def dividesHalvedRow : OpenClaim := { program := "ytjkelipglcnpmaa", sum := "0d5c7a7d151020a89b903595085a7e5655a5339caebdba6cdf564ea80af9d97d", func := "burrow/burrowlaw03.DividesHalved", spec := "dividesHalved", named := ["math/bits.divideError", "math/bits.overflowError"], apart := false }
def DividesHalvedSaid : Prop := dividesHalvedRow.holds Try.pinned (OpenSpec.ofChange dividesHalvedSpec)

/-- ITS FALSE NEIGHBOUR: 'it returns false'. Refute it at one input. -/
def dividesHalvedWrong : ChangeSpec := { name := "dividesHalved", fn := fun _ => fun
  | [d1, d2, d3] => { results := [.lit (.bool false)], args := [d1, d2, d3] }
  | _ => none }
def DividesHalvedWrongFalsely : Prop := dividesHalvedRow.holds Try.pinned (OpenSpec.ofChange dividesHalvedWrong)

/-- 'burrowlaw03.DividesWhole': WHATEVER THE INPUT: true; the input reads as it did. -/
def dividesWholeSpec : ChangeSpec := { name := "dividesWhole", fn := fun _ => fun
  | [d1, d2, d3] => { results := [.lit (.bool true)], args := [d1, d2, d3] }
  | _ => none }
def dividesWholeRow : OpenClaim := { program := "ytjkelipglcnpmaa", sum := "0d5c7a7d151020a89b903595085a7e5655a5339caebdba6cdf564ea80af9d97d", func := "burrow/burrowlaw03.DividesWhole", spec := "dividesWhole", named := ["math/bits.divideError", "math/bits.overflowError"], apart := false }
def DividesWholeSaid : Prop := dividesWholeRow.holds Try.pinned (OpenSpec.ofChange dividesWholeSpec)

/-- ITS FALSE NEIGHBOUR: 'it returns false'. Refute it at one input. -/
def dividesWholeWrong : ChangeSpec := { name := "dividesWhole", fn := fun _ => fun
  | [d1, d2, d3] => { results := [.lit (.bool false)], args := [d1, d2, d3] }
  | _ => none }
def DividesWholeWrongFalsely : Prop := dividesWholeRow.holds Try.pinned (OpenSpec.ofChange dividesWholeWrong)

/-- 'burrowlaw03.DividesCuts': WHATEVER THE INPUT: true; the input reads as it did. -/
def dividesCutsSpec : ChangeSpec := { name := "dividesCuts", fn := fun _ => fun
  | [d1, d2, d3] => { results := [.lit (.bool true)], args := [d1, d2, d3] }
  | _ => none }
def dividesCutsRow : OpenClaim := { program := "ytjkelipglcnpmaa", sum := "0d5c7a7d151020a89b903595085a7e5655a5339caebdba6cdf564ea80af9d97d", func := "burrow/burrowlaw03.DividesCuts", spec := "dividesCuts", named := ["math/bits.divideError", "math/bits.overflowError"], apart := false }
def DividesCutsSaid : Prop := dividesCutsRow.holds Try.pinned (OpenSpec.ofChange dividesCutsSpec)

/-- ITS FALSE NEIGHBOUR: 'it returns false'. Refute it at one input. -/
def dividesCutsWrong : ChangeSpec := { name := "dividesCuts", fn := fun _ => fun
  | [d1, d2, d3] => { results := [.lit (.bool false)], args := [d1, d2, d3] }
  | _ => none }
def DividesCutsWrongFalsely : Prop := dividesCutsRow.holds Try.pinned (OpenSpec.ofChange dividesCutsWrong)

/-- 'burrowlaw03.DividesShared': WHATEVER THE INPUT: true; the input reads as it did. -/
def dividesSharedSpec : ChangeSpec := { name := "dividesShared", fn := fun _ => fun
  | [d1, d2, d3] => { results := [.lit (.bool true)], args := [d1, d2, d3] }
  | _ => none }
def dividesSharedRow : OpenClaim := { program := "ytjkelipglcnpmaa", sum := "0d5c7a7d151020a89b903595085a7e5655a5339caebdba6cdf564ea80af9d97d", func := "burrow/burrowlaw03.DividesShared", spec := "dividesShared", named := ["math/bits.divideError", "math/bits.overflowError"], apart := false }
def DividesSharedSaid : Prop := dividesSharedRow.holds Try.pinned (OpenSpec.ofChange dividesSharedSpec)

/-- ITS FALSE NEIGHBOUR: 'it returns false'. Refute it at one input. -/
def dividesSharedWrong : ChangeSpec := { name := "dividesShared", fn := fun _ => fun
  | [d1, d2, d3] => { results := [.lit (.bool false)], args := [d1, d2, d3] }
  | _ => none }
def DividesSharedWrongFalsely : Prop := dividesSharedRow.holds Try.pinned (OpenSpec.ofChange dividesSharedWrong)

/-- 'burrowlaw03.DividesBetween': WHATEVER THE INPUT: true; the input reads as it did. -/
def dividesBetweenSpec : ChangeSpec := { name := "dividesBetween", fn := fun _ => fun
  | [d1, d2] => { results := [.lit (.bool true)], args := [d1, d2] }
  | _ => none }
def dividesBetweenRow : OpenClaim := { program := "ytjkelipglcnpmaa", sum := "0d5c7a7d151020a89b903595085a7e5655a5339caebdba6cdf564ea80af9d97d", func := "burrow/burrowlaw03.DividesBetween", spec := "dividesBetween", unfollowed := true, recurses := true, named := ["math/bits.divideError", "math/bits.overflowError"], apart := false }
def DividesBetweenSaid : Prop := dividesBetweenRow.holds Try.pinned (OpenSpec.ofChange dividesBetweenSpec)

/-- ITS FALSE NEIGHBOUR: 'it returns false'. Refute it at one input. -/
def dividesBetweenWrong : ChangeSpec := { name := "dividesBetween", fn := fun _ => fun
  | [d1, d2] => { results := [.lit (.bool false)], args := [d1, d2] }
  | _ => none }
def DividesBetweenWrongFalsely : Prop := dividesBetweenRow.holds Try.pinned (OpenSpec.ofChange dividesBetweenWrong)

/-- 'burrowlaw04.ModsReckoned': WHATEVER THE INPUT: true; the input reads as it did. -/
def modsReckonedSpec : ChangeSpec := { name := "modsReckoned", fn := fun _ => fun
  | [d1, d2, d3] => { results := [.lit (.bool true)], args := [d1, d2, d3] }
  | _ => none }
def modsReckonedRow : OpenClaim := { program := "ytjkelipglcnpmaa", sum := "0d5c7a7d151020a89b903595085a7e5655a5339caebdba6cdf564ea80af9d97d", func := "burrow/burrowlaw04.ModsReckoned", spec := "modsReckoned", unfollowed := true, recurses := true, named := ["math/bits.divideError", "math/bits.overflowError"], apart := false }
def ModsReckonedSaid : Prop := modsReckonedRow.holds Try.pinned (OpenSpec.ofChange modsReckonedSpec)

/-- ITS FALSE NEIGHBOUR: 'it returns false'. Refute it at one input. -/
def modsReckonedWrong : ChangeSpec := { name := "modsReckoned", fn := fun _ => fun
  | [d1, d2, d3] => { results := [.lit (.bool false)], args := [d1, d2, d3] }
  | _ => none }
def ModsReckonedWrongFalsely : Prop := modsReckonedRow.holds Try.pinned (OpenSpec.ofChange modsReckonedWrong)

/-- 'burrowlaw04.ModsRound': WHATEVER THE INPUT: true; the input reads as it did. -/
def modsRoundSpec : ChangeSpec := { name := "modsRound", fn := fun _ => fun
  | [d1, d2] => { results := [.lit (.bool true)], args := [d1, d2] }
  | _ => none }
def modsRoundRow : OpenClaim := { program := "ytjkelipglcnpmaa", sum := "0d5c7a7d151020a89b903595085a7e5655a5339caebdba6cdf564ea80af9d97d", func := "burrow/burrowlaw04.ModsRound", spec := "modsRound", unfollowed := true, recurses := true, named := ["math/bits.divideError", "math/bits.overflowError"], apart := false }
def ModsRoundSaid : Prop := modsRoundRow.holds Try.pinned (OpenSpec.ofChange modsRoundSpec)

/-- ITS FALSE NEIGHBOUR: 'it returns false'. Refute it at one input. -/
def modsRoundWrong : ChangeSpec := { name := "modsRound", fn := fun _ => fun
  | [d1, d2] => { results := [.lit (.bool false)], args := [d1, d2] }
  | _ => none }
def ModsRoundWrongFalsely : Prop := modsRoundRow.holds Try.pinned (OpenSpec.ofChange modsRoundWrong)

/-- 'burrowlaw04.ModsLast': WHATEVER THE INPUT: true; the input reads as it did. -/
def modsLastSpec : ChangeSpec := { name := "modsLast", fn := fun _ => fun
  | [d1, d2] => { results := [.lit (.bool true)], args := [d1, d2] }
  | _ => none }
def modsLastRow : OpenClaim := { program := "ytjkelipglcnpmaa", sum := "0d5c7a7d151020a89b903595085a7e5655a5339caebdba6cdf564ea80af9d97d", func := "burrow/burrowlaw04.ModsLast", spec := "modsLast", unfollowed := true, recurses := true, named := ["math/bits.divideError", "math/bits.overflowError"], apart := false }
def ModsLastSaid : Prop := modsLastRow.holds Try.pinned (OpenSpec.ofChange modsLastSpec)

/-- ITS FALSE NEIGHBOUR: 'it returns false'. Refute it at one input. -/
def modsLastWrong : ChangeSpec := { name := "modsLast", fn := fun _ => fun
  | [d1, d2] => { results := [.lit (.bool false)], args := [d1, d2] }
  | _ => none }
def ModsLastWrongFalsely : Prop := modsLastRow.holds Try.pinned (OpenSpec.ofChange modsLastWrong)

/-- 'burrowlaw04.ModsSteps': WHATEVER THE INPUT: true; the input reads as it did. -/
def modsStepsSpec : ChangeSpec := { name := "modsSteps", fn := fun _ => fun
  | [d1, d2, d3] => { results := [.lit (.bool true)], args := [d1, d2, d3] }
  | _ => none }
def modsStepsRow : OpenClaim := { program := "ytjkelipglcnpmaa", sum := "0d5c7a7d151020a89b903595085a7e5655a5339caebdba6cdf564ea80af9d97d", func := "burrow/burrowlaw04.ModsSteps", spec := "modsSteps", unfollowed := true, recurses := true, named := ["math/bits.divideError", "math/bits.overflowError"], apart := false }
def ModsStepsSaid : Prop := modsStepsRow.holds Try.pinned (OpenSpec.ofChange modsStepsSpec)

/-- ITS FALSE NEIGHBOUR: 'it returns false'. Refute it at one input. -/
def modsStepsWrong : ChangeSpec := { name := "modsSteps", fn := fun _ => fun
  | [d1, d2, d3] => { results := [.lit (.bool false)], args := [d1, d2, d3] }
  | _ => none }
def ModsStepsWrongFalsely : Prop := modsStepsRow.holds Try.pinned (OpenSpec.ofChange modsStepsWrong)

/-- 'burrowlaw04.ModsPrime': WHATEVER THE INPUT: true; the input reads as it did. -/
def modsPrimeSpec : ChangeSpec := { name := "modsPrime", fn := fun _ => fun
  | [d1, d2] => { results := [.lit (.bool true)], args := [d1, d2] }
  | _ => none }
def modsPrimeRow : OpenClaim := { program := "ytjkelipglcnpmaa", sum := "0d5c7a7d151020a89b903595085a7e5655a5339caebdba6cdf564ea80af9d97d", func := "burrow/burrowlaw04.ModsPrime", spec := "modsPrime", unfollowed := true, recurses := true, named := ["math/bits.divideError", "math/bits.overflowError"], apart := false }
def ModsPrimeSaid : Prop := modsPrimeRow.holds Try.pinned (OpenSpec.ofChange modsPrimeSpec)

/-- ITS FALSE NEIGHBOUR: 'it returns false'. Refute it at one input. -/
def modsPrimeWrong : ChangeSpec := { name := "modsPrime", fn := fun _ => fun
  | [d1, d2] => { results := [.lit (.bool false)], args := [d1, d2] }
  | _ => none }
def ModsPrimeWrongFalsely : Prop := modsPrimeRow.holds Try.pinned (OpenSpec.ofChange modsPrimeWrong)

/-- 'burrowlaw04.ModsBeyond': WHATEVER THE INPUT: true; the input reads as it did. -/
def modsBeyondSpec : ChangeSpec := { name := "modsBeyond", fn := fun _ => fun
  | [d1, d2, d3] => { results := [.lit (.bool true)], args := [d1, d2, d3] }
  | _ => none }
def modsBeyondRow : OpenClaim := { program := "ytjkelipglcnpmaa", sum := "0d5c7a7d151020a89b903595085a7e5655a5339caebdba6cdf564ea80af9d97d", func := "burrow/burrowlaw04.ModsBeyond", spec := "modsBeyond", unfollowed := true, recurses := true, named := ["math/bits.divideError", "math/bits.overflowError"], apart := false }
def ModsBeyondSaid : Prop := modsBeyondRow.holds Try.pinned (OpenSpec.ofChange modsBeyondSpec)

/-- ITS FALSE NEIGHBOUR: 'it returns false'. Refute it at one input. -/
def modsBeyondWrong : ChangeSpec := { name := "modsBeyond", fn := fun _ => fun
  | [d1, d2, d3] => { results := [.lit (.bool false)], args := [d1, d2, d3] }
  | _ => none }
def ModsBeyondWrongFalsely : Prop := modsBeyondRow.holds Try.pinned (OpenSpec.ofChange modsBeyondWrong)

/-- 'burrowlaw07.SigsKeys': WHATEVER THE INPUT: true; the input reads as it did. -/
def sigsKeysSpec : ChangeSpec := { name := "sigsKeys", fn := fun _ => fun
  | [d1, d2, d3] => { results := [.lit (.bool true)], args := [d1, d2, d3] }
  | _ => none }
def sigsKeysRow : OpenClaim := { program := "ytjkelipglcnpmaa", sum := "0d5c7a7d151020a89b903595085a7e5655a5339caebdba6cdf564ea80af9d97d", func := "burrow/burrowlaw07.SigsKeys", spec := "sigsKeys", unfollowed := true, recurses := true, named := ["math/bits.divideError", "math/bits.overflowError"], apart := false }
def SigsKeysSaid : Prop := sigsKeysRow.holds Try.pinned (OpenSpec.ofChange sigsKeysSpec)

/-- ITS FALSE NEIGHBOUR: 'it returns false'. Refute it at one input. -/
def sigsKeysWrong : ChangeSpec := { name := "sigsKeys", fn := fun _ => fun
  | [d1, d2, d3] => { results := [.lit (.bool false)], args := [d1, d2, d3] }
  | _ => none }
def SigsKeysWrongFalsely : Prop := sigsKeysRow.holds Try.pinned (OpenSpec.ofChange sigsKeysWrong)

/-- 'burrowlaw06.GroupsOf': WHATEVER THE INPUT: true; the input reads as it did. -/
def groupsOfSpec : ChangeSpec := { name := "groupsOf", fn := fun _ => fun
  | [d1, d2, d3] => { results := [.lit (.bool true)], args := [d1, d2, d3] }
  | _ => none }
def groupsOfRow : OpenClaim := { program := "ytjkelipglcnpmaa", sum := "0d5c7a7d151020a89b903595085a7e5655a5339caebdba6cdf564ea80af9d97d", func := "burrow/burrowlaw06.GroupsOf", spec := "groupsOf", unfollowed := true, recurses := true, named := ["math/bits.divideError", "math/bits.overflowError"], apart := false }
def GroupsOfSaid : Prop := groupsOfRow.holds Try.pinned (OpenSpec.ofChange groupsOfSpec)

/-- ITS FALSE NEIGHBOUR: 'it returns false'. Refute it at one input. -/
def groupsOfWrong : ChangeSpec := { name := "groupsOf", fn := fun _ => fun
  | [d1, d2, d3] => { results := [.lit (.bool false)], args := [d1, d2, d3] }
  | _ => none }
def GroupsOfWrongFalsely : Prop := groupsOfRow.holds Try.pinned (OpenSpec.ofChange groupsOfWrong)

/-- 'burrowlaw06.GroupsClosed': WHATEVER THE INPUT: true; the input reads as it did. -/
def groupsClosedSpec : ChangeSpec := { name := "groupsClosed", fn := fun _ => fun
  | [d] => { results := [.lit (.bool true)], args := [d] }
  | _ => none }
def groupsClosedRow : OpenClaim := { program := "ytjkelipglcnpmaa", sum := "0d5c7a7d151020a89b903595085a7e5655a5339caebdba6cdf564ea80af9d97d", func := "burrow/burrowlaw06.GroupsClosed", spec := "groupsClosed", unfollowed := true, recurses := true, named := ["math/bits.divideError", "math/bits.overflowError"], apart := false }
def GroupsClosedSaid : Prop := groupsClosedRow.holds Try.pinned (OpenSpec.ofChange groupsClosedSpec)

/-- ITS FALSE NEIGHBOUR: 'it returns false'. Refute it at one input. -/
def groupsClosedWrong : ChangeSpec := { name := "groupsClosed", fn := fun _ => fun
  | [d] => { results := [.lit (.bool false)], args := [d] }
  | _ => none }
def GroupsClosedWrongFalsely : Prop := groupsClosedRow.holds Try.pinned (OpenSpec.ofChange groupsClosedWrong)

/-- 'burrowlaw06.GroupsRound': WHATEVER THE INPUT: true; the input reads as it did. -/
def groupsRoundSpec : ChangeSpec := { name := "groupsRound", fn := fun _ => fun
  | [d] => { results := [.lit (.bool true)], args := [d] }
  | _ => none }
def groupsRoundRow : OpenClaim := { program := "ytjkelipglcnpmaa", sum := "0d5c7a7d151020a89b903595085a7e5655a5339caebdba6cdf564ea80af9d97d", func := "burrow/burrowlaw06.GroupsRound", spec := "groupsRound", unfollowed := true, recurses := true, named := ["math/bits.divideError", "math/bits.overflowError"], apart := false }
def GroupsRoundSaid : Prop := groupsRoundRow.holds Try.pinned (OpenSpec.ofChange groupsRoundSpec)

/-- ITS FALSE NEIGHBOUR: 'it returns false'. Refute it at one input. -/
def groupsRoundWrong : ChangeSpec := { name := "groupsRound", fn := fun _ => fun
  | [d] => { results := [.lit (.bool false)], args := [d] }
  | _ => none }
def GroupsRoundWrongFalsely : Prop := groupsRoundRow.holds Try.pinned (OpenSpec.ofChange groupsRoundWrong)

/-- 'burrowlaw06.GroupsShare': WHATEVER THE INPUT: true; the input reads as it did. -/
def groupsShareSpec : ChangeSpec := { name := "groupsShare", fn := fun _ => fun
  | [d] => { results := [.lit (.bool true)], args := [d] }
  | _ => none }
def groupsShareRow : OpenClaim := { program := "ytjkelipglcnpmaa", sum := "0d5c7a7d151020a89b903595085a7e5655a5339caebdba6cdf564ea80af9d97d", func := "burrow/burrowlaw06.GroupsShare", spec := "groupsShare", unfollowed := true, recurses := true, named := ["math/bits.divideError", "math/bits.overflowError"], apart := false }
def GroupsShareSaid : Prop := groupsShareRow.holds Try.pinned (OpenSpec.ofChange groupsShareSpec)

/-- ITS FALSE NEIGHBOUR: 'it returns false'. Refute it at one input. -/
def groupsShareWrong : ChangeSpec := { name := "groupsShare", fn := fun _ => fun
  | [d] => { results := [.lit (.bool false)], args := [d] }
  | _ => none }
def GroupsShareWrongFalsely : Prop := groupsShareRow.holds Try.pinned (OpenSpec.ofChange groupsShareWrong)

/-- 'burrowlaw06.GroupsWhole': WHATEVER THE INPUT: true; the input reads as it did. -/
def groupsWholeSpec : ChangeSpec := { name := "groupsWhole", fn := fun _ => fun
  | [d1, d2, d3] => { results := [.lit (.bool true)], args := [d1, d2, d3] }
  | _ => none }
def groupsWholeRow : OpenClaim := { program := "ytjkelipglcnpmaa", sum := "0d5c7a7d151020a89b903595085a7e5655a5339caebdba6cdf564ea80af9d97d", func := "burrow/burrowlaw06.GroupsWhole", spec := "groupsWhole", unfollowed := true, recurses := true, named := ["math/bits.divideError", "math/bits.overflowError"], apart := false }
def GroupsWholeSaid : Prop := groupsWholeRow.holds Try.pinned (OpenSpec.ofChange groupsWholeSpec)

/-- ITS FALSE NEIGHBOUR: 'it returns false'. Refute it at one input. -/
def groupsWholeWrong : ChangeSpec := { name := "groupsWhole", fn := fun _ => fun
  | [d1, d2, d3] => { results := [.lit (.bool false)], args := [d1, d2, d3] }
  | _ => none }
def GroupsWholeWrongFalsely : Prop := groupsWholeRow.holds Try.pinned (OpenSpec.ofChange groupsWholeWrong)

/-- 'burrowlaw04.ModsOver': WHATEVER THE INPUT: true; the input reads as it did. -/
def modsOverSpec : ChangeSpec := { name := "modsOver", fn := fun _ => fun
  | [d1, d2, d3] => { results := [.lit (.bool true)], args := [d1, d2, d3] }
  | _ => none }
def modsOverRow : OpenClaim := { program := "ytjkelipglcnpmaa", sum := "0d5c7a7d151020a89b903595085a7e5655a5339caebdba6cdf564ea80af9d97d", func := "burrow/burrowlaw04.ModsOver", spec := "modsOver", unfollowed := true, recurses := true, named := ["math/bits.divideError", "math/bits.overflowError"], apart := false }
def ModsOverSaid : Prop := modsOverRow.holds Try.pinned (OpenSpec.ofChange modsOverSpec)

/-- ITS FALSE NEIGHBOUR: 'it returns false'. Refute it at one input. -/
def modsOverWrong : ChangeSpec := { name := "modsOver", fn := fun _ => fun
  | [d1, d2, d3] => { results := [.lit (.bool false)], args := [d1, d2, d3] }
  | _ => none }
def ModsOverWrongFalsely : Prop := modsOverRow.holds Try.pinned (OpenSpec.ofChange modsOverWrong)

/-- 'burrowlaw07.SigsBack': WHATEVER THE INPUT: true; the input reads as it did. -/
def sigsBackSpec : ChangeSpec := { name := "sigsBack", fn := fun _ => fun
  | [d1, d2, d3] => { results := [.lit (.bool true)], args := [d1, d2, d3] }
  | _ => none }
def sigsBackRow : OpenClaim := { program := "ytjkelipglcnpmaa", sum := "0d5c7a7d151020a89b903595085a7e5655a5339caebdba6cdf564ea80af9d97d", func := "burrow/burrowlaw07.SigsBack", spec := "sigsBack", unfollowed := true, recurses := true, named := ["math/bits.divideError", "math/bits.overflowError"], apart := false }
def SigsBackSaid : Prop := sigsBackRow.holds Try.pinned (OpenSpec.ofChange sigsBackSpec)

/-- ITS FALSE NEIGHBOUR: 'it returns false'. Refute it at one input. -/
def sigsBackWrong : ChangeSpec := { name := "sigsBack", fn := fun _ => fun
  | [d1, d2, d3] => { results := [.lit (.bool false)], args := [d1, d2, d3] }
  | _ => none }
def SigsBackWrongFalsely : Prop := sigsBackRow.holds Try.pinned (OpenSpec.ofChange sigsBackWrong)

/-- 'burrowlaw07.SigsBounds': WHATEVER THE INPUT: true; the input reads as it did. -/
def sigsBoundsSpec : ChangeSpec := { name := "sigsBounds", fn := fun _ => fun
  | [d1, d2, d3] => { results := [.lit (.bool true)], args := [d1, d2, d3] }
  | _ => none }
def sigsBoundsRow : OpenClaim := { program := "ytjkelipglcnpmaa", sum := "0d5c7a7d151020a89b903595085a7e5655a5339caebdba6cdf564ea80af9d97d", func := "burrow/burrowlaw07.SigsBounds", spec := "sigsBounds", unfollowed := true, recurses := true, named := ["math/bits.divideError", "math/bits.overflowError"], apart := false }
def SigsBoundsSaid : Prop := sigsBoundsRow.holds Try.pinned (OpenSpec.ofChange sigsBoundsSpec)

/-- ITS FALSE NEIGHBOUR: 'it returns false'. Refute it at one input. -/
def sigsBoundsWrong : ChangeSpec := { name := "sigsBounds", fn := fun _ => fun
  | [d1, d2, d3] => { results := [.lit (.bool false)], args := [d1, d2, d3] }
  | _ => none }
def SigsBoundsWrongFalsely : Prop := sigsBoundsRow.holds Try.pinned (OpenSpec.ofChange sigsBoundsWrong)

/- THE SECOND FORM. 'bulk': how many values and letters a reading holds, each counted each time it is reached (what is shared counts as often as it is met; a slice's spare places count too). A statement '..UptoSaid' is the law's where the arguments, and the package variables that the reading takes, are together of bulk at most 1048576: NARROWER than '..Said'. Prove '..Said' where nothing that the law and all that it calls make is longer than what came in: it says more and counts as full. Else prove '..UptoSaid'. A law counts once. -/
mutual
def uptoBulk {H : Type} : DataW H → Nat
  | .lit (.string bytes) => bytes.length + 1
  | .lit _ => 1
  | .nil => 1
  | .ptr d => uptoBulk d + 1
  | .slice elems spare => uptoBulkAll elems + uptoBulkAll spare + 1
  | .agg parts => uptoBulkAll parts + 1
  | .iface _ d => uptoBulk d + 1
  | .map entries => uptoBulkEntries entries + 1
  | .held _ => 1
def uptoBulkAll {H : Type} : List (DataW H) → Nat
  | [] => 0
  | d :: r => uptoBulk d + uptoBulkAll r
def uptoBulkEntries {H : Type} : List (Lit × DataW H) → Nat
  | [] => 0
  | x :: r => uptoBulkEntry x + uptoBulkEntries r
def uptoBulkEntry {H : Type} : Lit × DataW H → Nat
  | (.string bytes, d) => bytes.length + uptoBulk d + 1
  | (_, d) => uptoBulk d + 1
 end
def uptoSmall : (H : Type) → List (DataW H) → Bool := fun _ ds => decide (uptoBulkAll ds ≤ 1048576)
def OpenSpec.upto (s : _root_.Go.ChangeSpec) : _root_.Go.OpenSpec := { _root_.Go.OpenSpec.ofChange s with cond := some uptoSmall }

/-- 'burrowlaw02.LimbsReckoned', WHERE WHAT IT READS IS OF BULK AT MOST 1048576: true; the input reads as it did. -/
def limbsReckonedUptoRow : OpenClaim := { program := "ytjkelipglcnpmaa", sum := "0d5c7a7d151020a89b903595085a7e5655a5339caebdba6cdf564ea80af9d97d", func := "burrow/burrowlaw02.LimbsReckoned", spec := "limbsReckoned", unfollowed := true, recurses := true, apart := false, narrowed := true }
def LimbsReckonedUptoSaid : Prop := limbsReckonedUptoRow.holds Try.pinned (OpenSpec.upto limbsReckonedSpec)

/-- 'burrowlaw02.LimbsTurned', WHERE WHAT IT READS IS OF BULK AT MOST 1048576: true; the input reads as it did. -/
def limbsTurnedUptoRow : OpenClaim := { program := "ytjkelipglcnpmaa", sum := "0d5c7a7d151020a89b903595085a7e5655a5339caebdba6cdf564ea80af9d97d", func := "burrow/burrowlaw02.LimbsTurned", spec := "limbsTurned", unfollowed := true, recurses := true, apart := false, narrowed := true }
def LimbsTurnedUptoSaid : Prop := limbsTurnedUptoRow.holds Try.pinned (OpenSpec.upto limbsTurnedSpec)

/-- 'burrowlaw02.LimbsSteps', WHERE WHAT IT READS IS OF BULK AT MOST 1048576: true; the input reads as it did. -/
def limbsStepsUptoRow : OpenClaim := { program := "ytjkelipglcnpmaa", sum := "0d5c7a7d151020a89b903595085a7e5655a5339caebdba6cdf564ea80af9d97d", func := "burrow/burrowlaw02.LimbsSteps", spec := "limbsSteps", unfollowed := true, recurses := true, apart := false, narrowed := true }
def LimbsStepsUptoSaid : Prop := limbsStepsUptoRow.holds Try.pinned (OpenSpec.upto limbsStepsSpec)

/-- 'burrowlaw02.LimbsApart', WHERE WHAT IT READS IS OF BULK AT MOST 1048576: true; the input reads as it did. -/
def limbsApartUptoRow : OpenClaim := { program := "ytjkelipglcnpmaa", sum := "0d5c7a7d151020a89b903595085a7e5655a5339caebdba6cdf564ea80af9d97d", func := "burrow/burrowlaw02.LimbsApart", spec := "limbsApart", unfollowed := true, recurses := true, apart := false, narrowed := true }
def LimbsApartUptoSaid : Prop := limbsApartUptoRow.holds Try.pinned (OpenSpec.upto limbsApartSpec)

/-- 'burrowlaw02.LimbsSquares', WHERE WHAT IT READS IS OF BULK AT MOST 1048576: true; the input reads as it did. -/
def limbsSquaresUptoRow : OpenClaim := { program := "ytjkelipglcnpmaa", sum := "0d5c7a7d151020a89b903595085a7e5655a5339caebdba6cdf564ea80af9d97d", func := "burrow/burrowlaw02.LimbsSquares", spec := "limbsSquares", unfollowed := true, recurses := true, apart := false, narrowed := true }
def LimbsSquaresUptoSaid : Prop := limbsSquaresUptoRow.holds Try.pinned (OpenSpec.upto limbsSquaresSpec)

/-- 'burrowlaw02.LimbsTop', WHERE WHAT IT READS IS OF BULK AT MOST 1048576: true; the input reads as it did. -/
def limbsTopUptoRow : OpenClaim := { program := "ytjkelipglcnpmaa", sum := "0d5c7a7d151020a89b903595085a7e5655a5339caebdba6cdf564ea80af9d97d", func := "burrow/burrowlaw02.LimbsTop", spec := "limbsTop", unfollowed := true, recurses := true, apart := false, narrowed := true }
def LimbsTopUptoSaid : Prop := limbsTopUptoRow.holds Try.pinned (OpenSpec.upto limbsTopSpec)

/-- 'burrowlaw02.LimbsMoves', WHERE WHAT IT READS IS OF BULK AT MOST 1048576: true; the input reads as it did. -/
def limbsMovesUptoRow : OpenClaim := { program := "ytjkelipglcnpmaa", sum := "0d5c7a7d151020a89b903595085a7e5655a5339caebdba6cdf564ea80af9d97d", func := "burrow/burrowlaw02.LimbsMoves", spec := "limbsMoves", unfollowed := true, recurses := true, apart := false, narrowed := true }
def LimbsMovesUptoSaid : Prop := limbsMovesUptoRow.holds Try.pinned (OpenSpec.upto limbsMovesSpec)

/-- 'burrowlaw03.DividesReckoned', WHERE WHAT IT READS IS OF BULK AT MOST 1048576: true; the input reads as it did. -/
def dividesReckonedUptoRow : OpenClaim := { program := "ytjkelipglcnpmaa", sum := "0d5c7a7d151020a89b903595085a7e5655a5339caebdba6cdf564ea80af9d97d", func := "burrow/burrowlaw03.DividesReckoned", spec := "dividesReckoned", recurses := true, named := ["math/bits.divideError", "math/bits.overflowError"], apart := false, narrowed := true }
def DividesReckonedUptoSaid : Prop := dividesReckonedUptoRow.holds Try.pinned (OpenSpec.upto dividesReckonedSpec)

/-- 'burrowlaw03.DividesNext', WHERE WHAT IT READS IS OF BULK AT MOST 1048576: true; the input reads as it did. -/
def dividesNextUptoRow : OpenClaim := { program := "ytjkelipglcnpmaa", sum := "0d5c7a7d151020a89b903595085a7e5655a5339caebdba6cdf564ea80af9d97d", func := "burrow/burrowlaw03.DividesNext", spec := "dividesNext", named := ["math/bits.divideError", "math/bits.overflowError"], apart := false, narrowed := true }
def DividesNextUptoSaid : Prop := dividesNextUptoRow.holds Try.pinned (OpenSpec.upto dividesNextSpec)

/-- 'burrowlaw03.DividesHalved', WHERE WHAT IT READS IS OF BULK AT MOST 1048576: true; the input reads as it did. -/
def dividesHalvedUptoRow : OpenClaim := { program := "ytjkelipglcnpmaa", sum := "0d5c7a7d151020a89b903595085a7e5655a5339caebdba6cdf564ea80af9d97d", func := "burrow/burrowlaw03.DividesHalved", spec := "dividesHalved", named := ["math/bits.divideError", "math/bits.overflowError"], apart := false, narrowed := true }
def DividesHalvedUptoSaid : Prop := dividesHalvedUptoRow.holds Try.pinned (OpenSpec.upto dividesHalvedSpec)

/-- 'burrowlaw03.DividesWhole', WHERE WHAT IT READS IS OF BULK AT MOST 1048576: true; the input reads as it did. -/
def dividesWholeUptoRow : OpenClaim := { program := "ytjkelipglcnpmaa", sum := "0d5c7a7d151020a89b903595085a7e5655a5339caebdba6cdf564ea80af9d97d", func := "burrow/burrowlaw03.DividesWhole", spec := "dividesWhole", named := ["math/bits.divideError", "math/bits.overflowError"], apart := false, narrowed := true }
def DividesWholeUptoSaid : Prop := dividesWholeUptoRow.holds Try.pinned (OpenSpec.upto dividesWholeSpec)

/-- 'burrowlaw03.DividesCuts', WHERE WHAT IT READS IS OF BULK AT MOST 1048576: true; the input reads as it did. -/
def dividesCutsUptoRow : OpenClaim := { program := "ytjkelipglcnpmaa", sum := "0d5c7a7d151020a89b903595085a7e5655a5339caebdba6cdf564ea80af9d97d", func := "burrow/burrowlaw03.DividesCuts", spec := "dividesCuts", named := ["math/bits.divideError", "math/bits.overflowError"], apart := false, narrowed := true }
def DividesCutsUptoSaid : Prop := dividesCutsUptoRow.holds Try.pinned (OpenSpec.upto dividesCutsSpec)

/-- 'burrowlaw03.DividesShared', WHERE WHAT IT READS IS OF BULK AT MOST 1048576: true; the input reads as it did. -/
def dividesSharedUptoRow : OpenClaim := { program := "ytjkelipglcnpmaa", sum := "0d5c7a7d151020a89b903595085a7e5655a5339caebdba6cdf564ea80af9d97d", func := "burrow/burrowlaw03.DividesShared", spec := "dividesShared", named := ["math/bits.divideError", "math/bits.overflowError"], apart := false, narrowed := true }
def DividesSharedUptoSaid : Prop := dividesSharedUptoRow.holds Try.pinned (OpenSpec.upto dividesSharedSpec)

/-- 'burrowlaw03.DividesBetween', WHERE WHAT IT READS IS OF BULK AT MOST 1048576: true; the input reads as it did. -/
def dividesBetweenUptoRow : OpenClaim := { program := "ytjkelipglcnpmaa", sum := "0d5c7a7d151020a89b903595085a7e5655a5339caebdba6cdf564ea80af9d97d", func := "burrow/burrowlaw03.DividesBetween", spec := "dividesBetween", unfollowed := true, recurses := true, named := ["math/bits.divideError", "math/bits.overflowError"], apart := false, narrowed := true }
def DividesBetweenUptoSaid : Prop := dividesBetweenUptoRow.holds Try.pinned (OpenSpec.upto dividesBetweenSpec)

/-- 'burrowlaw04.ModsReckoned', WHERE WHAT IT READS IS OF BULK AT MOST 1048576: true; the input reads as it did. -/
def modsReckonedUptoRow : OpenClaim := { program := "ytjkelipglcnpmaa", sum := "0d5c7a7d151020a89b903595085a7e5655a5339caebdba6cdf564ea80af9d97d", func := "burrow/burrowlaw04.ModsReckoned", spec := "modsReckoned", unfollowed := true, recurses := true, named := ["math/bits.divideError", "math/bits.overflowError"], apart := false, narrowed := true }
def ModsReckonedUptoSaid : Prop := modsReckonedUptoRow.holds Try.pinned (OpenSpec.upto modsReckonedSpec)

/-- 'burrowlaw04.ModsRound', WHERE WHAT IT READS IS OF BULK AT MOST 1048576: true; the input reads as it did. -/
def modsRoundUptoRow : OpenClaim := { program := "ytjkelipglcnpmaa", sum := "0d5c7a7d151020a89b903595085a7e5655a5339caebdba6cdf564ea80af9d97d", func := "burrow/burrowlaw04.ModsRound", spec := "modsRound", unfollowed := true, recurses := true, named := ["math/bits.divideError", "math/bits.overflowError"], apart := false, narrowed := true }
def ModsRoundUptoSaid : Prop := modsRoundUptoRow.holds Try.pinned (OpenSpec.upto modsRoundSpec)

/-- 'burrowlaw04.ModsLast', WHERE WHAT IT READS IS OF BULK AT MOST 1048576: true; the input reads as it did. -/
def modsLastUptoRow : OpenClaim := { program := "ytjkelipglcnpmaa", sum := "0d5c7a7d151020a89b903595085a7e5655a5339caebdba6cdf564ea80af9d97d", func := "burrow/burrowlaw04.ModsLast", spec := "modsLast", unfollowed := true, recurses := true, named := ["math/bits.divideError", "math/bits.overflowError"], apart := false, narrowed := true }
def ModsLastUptoSaid : Prop := modsLastUptoRow.holds Try.pinned (OpenSpec.upto modsLastSpec)

/-- 'burrowlaw04.ModsSteps', WHERE WHAT IT READS IS OF BULK AT MOST 1048576: true; the input reads as it did. -/
def modsStepsUptoRow : OpenClaim := { program := "ytjkelipglcnpmaa", sum := "0d5c7a7d151020a89b903595085a7e5655a5339caebdba6cdf564ea80af9d97d", func := "burrow/burrowlaw04.ModsSteps", spec := "modsSteps", unfollowed := true, recurses := true, named := ["math/bits.divideError", "math/bits.overflowError"], apart := false, narrowed := true }
def ModsStepsUptoSaid : Prop := modsStepsUptoRow.holds Try.pinned (OpenSpec.upto modsStepsSpec)

/-- 'burrowlaw04.ModsPrime', WHERE WHAT IT READS IS OF BULK AT MOST 1048576: true; the input reads as it did. -/
def modsPrimeUptoRow : OpenClaim := { program := "ytjkelipglcnpmaa", sum := "0d5c7a7d151020a89b903595085a7e5655a5339caebdba6cdf564ea80af9d97d", func := "burrow/burrowlaw04.ModsPrime", spec := "modsPrime", unfollowed := true, recurses := true, named := ["math/bits.divideError", "math/bits.overflowError"], apart := false, narrowed := true }
def ModsPrimeUptoSaid : Prop := modsPrimeUptoRow.holds Try.pinned (OpenSpec.upto modsPrimeSpec)

/-- 'burrowlaw04.ModsBeyond', WHERE WHAT IT READS IS OF BULK AT MOST 1048576: true; the input reads as it did. -/
def modsBeyondUptoRow : OpenClaim := { program := "ytjkelipglcnpmaa", sum := "0d5c7a7d151020a89b903595085a7e5655a5339caebdba6cdf564ea80af9d97d", func := "burrow/burrowlaw04.ModsBeyond", spec := "modsBeyond", unfollowed := true, recurses := true, named := ["math/bits.divideError", "math/bits.overflowError"], apart := false, narrowed := true }
def ModsBeyondUptoSaid : Prop := modsBeyondUptoRow.holds Try.pinned (OpenSpec.upto modsBeyondSpec)

/-- 'burrowlaw07.SigsKeys', WHERE WHAT IT READS IS OF BULK AT MOST 1048576: true; the input reads as it did. -/
def sigsKeysUptoRow : OpenClaim := { program := "ytjkelipglcnpmaa", sum := "0d5c7a7d151020a89b903595085a7e5655a5339caebdba6cdf564ea80af9d97d", func := "burrow/burrowlaw07.SigsKeys", spec := "sigsKeys", unfollowed := true, recurses := true, named := ["math/bits.divideError", "math/bits.overflowError"], apart := false, narrowed := true }
def SigsKeysUptoSaid : Prop := sigsKeysUptoRow.holds Try.pinned (OpenSpec.upto sigsKeysSpec)

/-- 'burrowlaw06.GroupsOf', WHERE WHAT IT READS IS OF BULK AT MOST 1048576: true; the input reads as it did. -/
def groupsOfUptoRow : OpenClaim := { program := "ytjkelipglcnpmaa", sum := "0d5c7a7d151020a89b903595085a7e5655a5339caebdba6cdf564ea80af9d97d", func := "burrow/burrowlaw06.GroupsOf", spec := "groupsOf", unfollowed := true, recurses := true, named := ["math/bits.divideError", "math/bits.overflowError"], apart := false, narrowed := true }
def GroupsOfUptoSaid : Prop := groupsOfUptoRow.holds Try.pinned (OpenSpec.upto groupsOfSpec)

/-- 'burrowlaw06.GroupsClosed', WHERE WHAT IT READS IS OF BULK AT MOST 1048576: true; the input reads as it did. -/
def groupsClosedUptoRow : OpenClaim := { program := "ytjkelipglcnpmaa", sum := "0d5c7a7d151020a89b903595085a7e5655a5339caebdba6cdf564ea80af9d97d", func := "burrow/burrowlaw06.GroupsClosed", spec := "groupsClosed", unfollowed := true, recurses := true, named := ["math/bits.divideError", "math/bits.overflowError"], apart := false, narrowed := true }
def GroupsClosedUptoSaid : Prop := groupsClosedUptoRow.holds Try.pinned (OpenSpec.upto groupsClosedSpec)

/-- 'burrowlaw06.GroupsRound', WHERE WHAT IT READS IS OF BULK AT MOST 1048576: true; the input reads as it did. -/
def groupsRoundUptoRow : OpenClaim := { program := "ytjkelipglcnpmaa", sum := "0d5c7a7d151020a89b903595085a7e5655a5339caebdba6cdf564ea80af9d97d", func := "burrow/burrowlaw06.GroupsRound", spec := "groupsRound", unfollowed := true, recurses := true, named := ["math/bits.divideError", "math/bits.overflowError"], apart := false, narrowed := true }
def GroupsRoundUptoSaid : Prop := groupsRoundUptoRow.holds Try.pinned (OpenSpec.upto groupsRoundSpec)

/-- 'burrowlaw06.GroupsShare', WHERE WHAT IT READS IS OF BULK AT MOST 1048576: true; the input reads as it did. -/
def groupsShareUptoRow : OpenClaim := { program := "ytjkelipglcnpmaa", sum := "0d5c7a7d151020a89b903595085a7e5655a5339caebdba6cdf564ea80af9d97d", func := "burrow/burrowlaw06.GroupsShare", spec := "groupsShare", unfollowed := true, recurses := true, named := ["math/bits.divideError", "math/bits.overflowError"], apart := false, narrowed := true }
def GroupsShareUptoSaid : Prop := groupsShareUptoRow.holds Try.pinned (OpenSpec.upto groupsShareSpec)

/-- 'burrowlaw06.GroupsWhole', WHERE WHAT IT READS IS OF BULK AT MOST 1048576: true; the input reads as it did. -/
def groupsWholeUptoRow : OpenClaim := { program := "ytjkelipglcnpmaa", sum := "0d5c7a7d151020a89b903595085a7e5655a5339caebdba6cdf564ea80af9d97d", func := "burrow/burrowlaw06.GroupsWhole", spec := "groupsWhole", unfollowed := true, recurses := true, named := ["math/bits.divideError", "math/bits.overflowError"], apart := false, narrowed := true }
def GroupsWholeUptoSaid : Prop := groupsWholeUptoRow.holds Try.pinned (OpenSpec.upto groupsWholeSpec)

/-- 'burrowlaw04.ModsOver', WHERE WHAT IT READS IS OF BULK AT MOST 1048576: true; the input reads as it did. -/
def modsOverUptoRow : OpenClaim := { program := "ytjkelipglcnpmaa", sum := "0d5c7a7d151020a89b903595085a7e5655a5339caebdba6cdf564ea80af9d97d", func := "burrow/burrowlaw04.ModsOver", spec := "modsOver", unfollowed := true, recurses := true, named := ["math/bits.divideError", "math/bits.overflowError"], apart := false, narrowed := true }
def ModsOverUptoSaid : Prop := modsOverUptoRow.holds Try.pinned (OpenSpec.upto modsOverSpec)

/-- 'burrowlaw07.SigsBack', WHERE WHAT IT READS IS OF BULK AT MOST 1048576: true; the input reads as it did. -/
def sigsBackUptoRow : OpenClaim := { program := "ytjkelipglcnpmaa", sum := "0d5c7a7d151020a89b903595085a7e5655a5339caebdba6cdf564ea80af9d97d", func := "burrow/burrowlaw07.SigsBack", spec := "sigsBack", unfollowed := true, recurses := true, named := ["math/bits.divideError", "math/bits.overflowError"], apart := false, narrowed := true }
def SigsBackUptoSaid : Prop := sigsBackUptoRow.holds Try.pinned (OpenSpec.upto sigsBackSpec)

/-- 'burrowlaw07.SigsBounds', WHERE WHAT IT READS IS OF BULK AT MOST 1048576: true; the input reads as it did. -/
def sigsBoundsUptoRow : OpenClaim := { program := "ytjkelipglcnpmaa", sum := "0d5c7a7d151020a89b903595085a7e5655a5339caebdba6cdf564ea80af9d97d", func := "burrow/burrowlaw07.SigsBounds", spec := "sigsBounds", unfollowed := true, recurses := true, named := ["math/bits.divideError", "math/bits.overflowError"], apart := false, narrowed := true }
def SigsBoundsUptoSaid : Prop := sigsBoundsUptoRow.holds Try.pinned (OpenSpec.upto sigsBoundsSpec)

end Rows
end Go.Proofs.Ytjkelipglcnpmaa
