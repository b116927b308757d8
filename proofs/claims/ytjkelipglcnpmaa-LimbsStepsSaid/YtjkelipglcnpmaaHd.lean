/- Plain laws: lemmas that hold with no condition but those that each states. -/
import Derived.Test.YtjkelipglcnpmaaRows
import Derived.JoinedOf
namespace Go.VM
open Go

theorem and2 {a b : Bool} (ha : a = true) (hb : b = true) : (a && b) = true := by rw [ha, hb]; rfl
theorem beq_of {α : Type} [BEq α] [LawfulBEq α] {a b : α} (h : b = a) : (a == b) = true := by rw [h]; exact beq_self_eq_true a

/-- Signs by their numbers. -/
def chars (l : List Nat) : List Char := l.map Char.ofNat

/-- A word ahead of the rest. -/
theorem words_ahead : ∀ (w r : List Char), (w.all fun c => !(c == Char.ofNat 32)) = true → wordsSigns (w ++ Char.ofNat 32 :: r) = w :: wordsSigns r := by
  intro w
  induction w with
  | nil => intro r _; rfl
  | cons c w ih =>
    intro r h
    simp only [List.all_cons, Bool.and_eq_true] at h
    have hc : c ≠ Char.ofNat 32 := by intro e; subst e; simp at h
    have := ih r h.2
    rw [List.cons_append]
    conv => lhs; unfold wordsSigns
    split
    · rename_i h'; cases h'
    · rename_i h'; simp only [List.cons.injEq] at h'; exact absurd h'.1 hc
    · rename_i h'
      simp only [List.cons.injEq] at h'
      obtain ⟨rfl, rfl⟩ := h'
      rw [this]

end Go.VM
namespace Go.Proofs
open Go Go.VM

def headRest : List Char := (chars [97, 116, 32, 98, 117, 114, 114, 111, 119, 47, 98, 117, 114, 114, 111, 119, 108, 97, 119, 48, 50, 46, 76, 105, 109, 98, 115, 82, 101, 99, 107, 111, 110, 101, 100, 32, 98, 117, 114, 114, 111, 119, 47, 98, 117, 114, 114, 111, 119, 108, 97, 119, 48, 50, 46, 76, 105, 109, 98, 115, 84, 117, 114, 110, 101, 100, 32, 98, 117, 114, 114, 111, 119, 47, 98, 117, 114, 114, 111, 119, 108, 97, 119, 48, 50, 46, 76, 105, 109, 98, 115, 83, 116, 101, 112, 115, 32, 98, 117, 114, 114, 111, 119, 47, 98, 117, 114, 114, 111, 119, 108, 97, 119, 48, 50, 46, 76, 105, 109, 98, 115, 65, 112, 97, 114, 116, 32, 98, 117, 114, 114, 111, 119, 47, 98, 117, 114, 114, 111, 119, 108, 97, 119, 48, 50, 46, 76, 105, 109, 98, 115, 83, 113, 117, 97, 114, 101, 115, 32, 98, 117, 114, 114, 111, 119, 47, 98, 117, 114, 114, 111, 119, 108, 97, 119, 48, 50, 46, 76, 105, 109, 98, 115, 84, 111, 112, 32, 98, 117, 114, 114, 111, 119, 47, 98, 117, 114, 114, 111, 119, 108, 97, 119, 48, 50, 46, 76, 105, 109, 98, 115, 77, 111, 118, 101, 115, 32, 98, 117, 114, 114, 111, 119, 47, 98, 117, 114, 114, 111, 119, 108, 97, 119, 48, 51, 46, 68, 105, 118, 105, 100, 101, 115, 82, 101, 99, 107, 111, 110, 101, 100, 32, 98, 117, 114, 114, 111, 119, 47, 98, 117, 114, 114, 111, 119, 108, 97, 119, 48, 51, 46, 68, 105, 118, 105, 100, 101, 115, 78, 101, 120, 116, 32, 98, 117, 114, 114, 111, 119, 47, 98, 117, 114, 114, 111, 119, 108, 97, 119, 48, 51, 46, 68, 105, 118, 105, 100, 101, 115, 72, 97, 108, 118, 101, 100, 32, 98, 117, 114, 114, 111, 119, 47, 98, 117, 114, 114, 111, 119, 108, 97, 119, 48, 51, 46, 68, 105, 118, 105, 100, 101, 115, 87, 104, 111, 108, 101, 32, 98, 117, 114, 114, 111, 119, 47, 98, 117, 114, 114, 111, 119, 108, 97, 119, 48, 51, 46, 68, 105, 118, 105, 100, 101, 115, 67, 117, 116, 115, 32, 98, 117, 114, 114, 111, 119, 47, 98, 117, 114, 114, 111, 119, 108, 97, 119, 48, 51, 46, 68, 105, 118, 105, 100, 101, 115, 83, 104, 97, 114, 101, 100, 32, 98, 117, 114, 114, 111, 119, 47, 98, 117, 114, 114, 111, 119, 108, 97, 119, 48, 51, 46, 68, 105, 118, 105, 100, 101, 115, 66, 101, 116, 119, 101, 101, 110, 32, 98, 117, 114, 114, 111, 119, 47, 98, 117, 114, 114, 111, 119, 108, 97, 119, 48, 52, 46, 77, 111, 100, 115, 82, 101, 99, 107, 111, 110, 101, 100, 32, 98, 117, 114, 114, 111, 119, 47, 98, 117, 114, 114, 111, 119, 108, 97, 119, 48, 52, 46, 77, 111, 100, 115, 82, 111, 117, 110, 100, 32, 98, 117, 114, 114, 111, 119, 47, 98, 117, 114, 114, 111, 119, 108, 97, 119, 48, 52, 46, 77, 111, 100, 115, 76, 97, 115, 116, 32, 98, 117, 114, 114, 111, 119, 47, 98, 117, 114, 114, 111, 119, 108, 97, 119, 48, 52, 46, 77, 111, 100, 115, 83, 116, 101, 112, 115, 32, 98, 117, 114, 114, 111, 119, 47, 98, 117, 114, 114, 111, 119, 108, 97, 119, 48, 52, 46, 77, 111, 100, 115, 80, 114, 105, 109, 101, 32, 98, 117, 114, 114, 111, 119, 47, 98, 117, 114, 114, 111, 119, 108, 97, 119, 48, 52, 46, 77, 111, 100, 115, 66, 101, 121, 111, 110, 100, 32, 98, 117, 114, 114, 111, 119, 47, 98, 117, 114, 114, 111, 119, 108, 97, 119, 48, 55, 46, 83, 105, 103, 115, 75, 101, 121, 115, 32, 98, 117, 114, 114, 111, 119, 47, 98, 117, 114, 114, 111, 119, 108, 97, 119, 48, 54, 46, 71, 114, 111, 117, 112, 115, 79, 102, 32, 98, 117, 114, 114, 111, 119, 47, 98, 117, 114, 114, 111, 119, 108, 97, 119, 48, 54, 46, 71, 114, 111, 117, 112, 115, 67, 108, 111, 115, 101, 100, 32, 98, 117, 114, 114, 111, 119, 47, 98, 117, 114, 114, 111, 119, 108, 97, 119, 48, 54, 46, 71, 114, 111, 117, 112, 115, 82, 111, 117, 110, 100, 32, 98, 117, 114, 114, 111, 119, 47, 98, 117, 114, 114, 111, 119, 108, 97, 119, 48, 54, 46, 71, 114, 111, 117, 112, 115, 83, 104, 97, 114, 101, 32, 98, 117, 114, 114, 111, 119, 47, 98, 117, 114, 114, 111, 119, 108, 97, 119, 48, 54, 46, 71, 114, 111, 117, 112, 115, 87, 104, 111, 108, 101, 32, 98, 117, 114, 114, 111, 119, 47, 98, 117, 114, 114, 111, 119, 108, 97, 119, 48, 52, 46, 77, 111, 100, 115, 79, 118, 101, 114, 32, 98, 117, 114, 114, 111, 119, 47, 98, 117, 114, 114, 111, 119, 108, 97, 119, 48, 55, 46, 83, 105, 103, 115, 66, 97, 99, 107, 32, 98, 117, 114, 114, 111, 119, 47, 98, 117, 114, 114, 111, 119, 108, 97, 119, 48, 55, 46, 83, 105, 103, 115, 66, 111, 117, 110, 100, 115])

theorem headSigns : ∃ R, wordsSigns Try.prog.initOrder.toList = (chars [104, 97, 114, 110, 101, 115, 115]) :: (chars [50, 54, 98, 52, 54, 102, 99, 52, 52, 54, 101, 52, 57, 52, 49, 101, 100, 56, 56, 101, 57, 101, 53, 56, 48, 50, 49, 53, 101, 55, 49, 102, 49, 48, 54, 97, 50, 57, 99, 100, 53, 97, 101, 100, 98, 97, 98, 102, 50, 57, 56, 57, 97, 102, 98, 56, 53, 52, 57, 57, 57, 54, 48, 55]) :: (chars [99, 117, 116]) :: wordsSigns R := by
  refine ⟨headRest, ?_⟩
  have h : Try.prog.initOrder = String.ofList ((chars [104, 97, 114, 110, 101, 115, 115]) ++ Char.ofNat 32 :: ((chars [50, 54, 98, 52, 54, 102, 99, 52, 52, 54, 101, 52, 57, 52, 49, 101, 100, 56, 56, 101, 57, 101, 53, 56, 48, 50, 49, 53, 101, 55, 49, 102, 49, 48, 54, 97, 50, 57, 99, 100, 53, 97, 101, 100, 98, 97, 98, 102, 50, 57, 56, 57, 97, 102, 98, 56, 53, 52, 57, 57, 57, 54, 48, 55]) ++ Char.ofNat 32 :: ((chars [99, 117, 116]) ++ Char.ofNat 32 :: headRest))) := by kernel_rfl
  rw [h, String.toList_ofList, words_ahead _ _ (by decide +kernel), words_ahead _ _ (by decide +kernel), words_ahead _ _ (by decide +kernel)]

theorem cutSigns (ws : List (List Char)) : behindMainWord ((chars [104, 97, 114, 110, 101, 115, 115]) :: (chars [50, 54, 98, 52, 54, 102, 99, 52, 52, 54, 101, 52, 57, 52, 49, 101, 100, 56, 56, 101, 57, 101, 53, 56, 48, 50, 49, 53, 101, 55, 49, 102, 49, 48, 54, 97, 50, 57, 99, 100, 53, 97, 101, 100, 98, 97, 98, 102, 50, 57, 56, 57, 97, 102, 98, 56, 53, 52, 57, 57, 57, 54, 48, 55]) :: (chars [99, 117, 116]) :: ws) = (chars [99, 117, 116]) :: ws := by kernel_rfl
theorem headWords : ∃ ws, behindMainWord (wordsSigns Try.prog.initOrder.toList) = (chars [99, 117, 116]) :: ws := by
  obtain ⟨R, hR⟩ := headSigns
  refine ⟨wordsSigns R, ?_⟩
  rw [hR]
  exact cutSigns (wordsSigns R)
theorem cutNot1 : ((chars [99, 117, 116]) == "gc".toList || (chars [99, 117, 116]) == "spec".toList) = false := by kernel_rfl
theorem cutNot2 : ((chars [99, 117, 116]) == "carried".toList) = false := by kernel_rfl
theorem cutIs : ((chars [99, 117, 116]) == "cut".toList) = true := by kernel_rfl
theorem cutHead (ws : List (List Char)) : (((chars [99, 117, 116]) :: ws).head? == some "cut".toList) = true := by kernel_rfl
theorem cutHead2 (ws : List (List Char)) : (((chars [99, 117, 116]) :: ws).head? == some "carried".toList) = false := by kernel_rfl
theorem cutStrip (ws : List (List Char)) : stripLifts liftWords ((chars [99, 117, 116]) :: ws) = ([], (chars [99, 117, 116]) :: ws) := by kernel_rfl
theorem noneLater : Try.prog.laysLater = false := by kernel_rfl
theorem noneReflect : Try.prog.bearsReflect = false := by kernel_rfl
theorem doorOK : Try.prog.doorFits [] = true := by kernel_rfl
theorem notFinals : ([] : List String).contains "finals" = false := rfl

theorem make_of {P : Program} {ws : List (List Char)} (h : behindMainWord (wordsSigns P.initOrder.toList) = (chars [99, 117, 116]) :: ws) : P.make = some .cut := by
  unfold Program.make
  rw [h]
  simp only [cutNot1, cutIs, Bool.false_eq_true, if_false, Bool.true_or, if_true]

theorem liftsFinal_of {P : Program} {ws : List (List Char)} (h : behindMainWord (wordsSigns P.initOrder.toList) = (chars [99, 117, 116]) :: ws) : P.liftsFinal = false := by
  unfold Program.liftsFinal Program.headLifts
  rw [h]
  simp only [cutHead, cutHead2, cutStrip, Bool.false_and, Bool.false_or, if_true, notFinals]

theorem mayEnter_of {P : Program} {ws : List (List Char)} (h : behindMainWord (wordsSigns P.initOrder.toList) = (chars [99, 117, 116]) :: ws) (h1 : P.laysLater = false) (h2 : P.bearsReflect = false) (h3 : P.doorFits [] = true) : P.mayEnter = true := by
  unfold Program.mayEnter
  rw [h]
  simp only [cutNot1, cutNot2, cutStrip, cutHead, h1, h2, h3, Bool.false_and, Bool.false_or, Bool.true_and, Bool.not_false, Bool.or_true, Bool.and_true]
  rfl

theorem make_ok : Try.prog.make = some .cut := by
  obtain ⟨ws, h⟩ := headWords
  exact make_of h
theorem liftsFinal_ok : Try.prog.liftsFinal = false := by
  obtain ⟨ws, h⟩ := headWords
  exact liftsFinal_of h
theorem mayEnter_ok : Try.prog.mayEnter = true := by
  obtain ⟨ws, h⟩ := headWords
  exact mayEnter_of h noneLater noneReflect doorOK

/-- What the program's text alone decides. -/
theorem laidOut_ok : laidOutB Try.prog = true := by kernel_rfl
theorem mapsRowed_ok : mapsRowed Try.prog = true := by kernel_rfl
theorem plainKeys_ok : Try.prog.plainKeys = true := by kernel_rfl
theorem stopsHeard_ok : Try.prog.stopsHeard = true := by kernel_rfl

end Go.Proofs
