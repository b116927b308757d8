/- Go functions: for each a Lean function with the same answers, and the proof that the call comes to them, with no condition. -/
import Derived.Test.YtjkelipglcnpmaaFr
namespace Go.VM
open Go Go.ChangeShapes Go.WideShapes Go.ChangeAt Go.RowKit
section
variable {H : Type} {enc : TypeId × Value → H} {P : Program}
theorem trod_num {w : World} {b : Nat} {sp : Nat → Bool} {hd : Bool} {t e : TypeId} (ht : P.underlying t = some (.array 4 e)) (he : P.underlying e = some (.int .u64)) (hc : P.cellsOf e = 1) (hct : P.cellsOf t = 4)
    {fuel : Nat} {cs : List Value} {x : DataW H × List MemPlace} (h : DataW.trod enc P w b sp hd fuel t cs = some x) : ∃ A, A < 2 ^ 256 ∧ cs = (VV.ints .u64 4 (num A)).cells id := by
  obtain ⟨g, g1, g2⟩ := trod_ints ht he hc hct h
  obtain ⟨A, hA, e1⟩ := num_of g1
  exact ⟨A, hA, by rw [g2, e1]⟩
theorem cut_at (cs : List Value) (n m : Nat) : cs.drop n = (cs.drop n).take m ++ cs.drop (n + m) := by
  rw [← List.drop_drop, List.take_append_drop]
theorem reads_group {t n e : TypeId} (hn : P.underlying n = some (.array 4 e)) (he : P.underlying e = some (.int .u64)) (hc : P.cellsOf e = 1) (hct : P.cellsOf n = 4)
    {f0 f1 f2 : Field} (ht : P.underlying t = some (.struct #[f0, f1, f2])) (h0 : f0.type = n ∧ f0.offset = 0) (h1 : f1.type = n ∧ f1.offset = 4) (h2 : f2.type = n ∧ f2.offset = 8) (hcs : P.cellsOf t = 12)
    {w : World} {b : Nat} {sp : Nat → Bool} {hd : Bool} {fuel : Nat} {cs : List Value} {x : DataW H × List MemPlace} (h : DataW.trod enc P w b sp hd fuel t cs = some x) :
    ∃ p q g, p < 2 ^ 256 ∧ q < 2 ^ 256 ∧ g < 2 ^ 256 ∧ cs = (VV.ints .u64 4 (num p)).cells id ++ ((VV.ints .u64 4 (num q)).cells id ++ (VV.ints .u64 4 (num g)).cells id) := by
  obtain ⟨xs, m, _, _, hl, hlen, hf⟩ := DataW.trod_struct ht h
  match xs, hlen with
  | [y0, y1, y2], _ =>
    have k0 := hf 0 f0 rfl
    have k1 := hf 1 f1 rfl
    have k2 := hf 2 f2 rfl
    simp only [h0.1, h0.2, h1.1, h1.2, h2.1, h2.2, hct] at k0 k1 k2
    obtain ⟨p, hp, e0⟩ := trod_num hn he hc hct (show _ = some y0 from k0)
    obtain ⟨q, hq, e1⟩ := trod_num hn he hc hct (show _ = some y1 from k1)
    obtain ⟨g, hg, e2⟩ := trod_num hn he hc hct (show _ = some y2 from k2)
    refine ⟨p, q, g, hp, hq, hg, ?_⟩
    rw [← e0, ← e1, ← e2]
    have hend : (cs.drop 8).take 4 = cs.drop 8 := List.take_of_length_le (by simp; omega)
    rw [hend, ← cut_at cs 4 4, ← cut_at cs 0 4]
    rfl
theorem cells3 {p q g : Nat} : (VV.ints .u64 4 (num p)).cells id ++ ((VV.ints .u64 4 (num q)).cells id ++ (VV.ints .u64 4 (num g)).cells id) = VV.cellss id [.ints .u64 4 (num p), .ints .u64 4 (num q), .ints .u64 4 (num g)] := by
  simp only [VV.cellss, List.append_nil]
theorem reads3 {t n e : TypeId} (hn : P.underlying n = some (.array 4 e)) (he : P.underlying e = some (.int .u64)) (hc : P.cellsOf e = 1) (hct : P.cellsOf n = 4)
    {f0 f1 f2 : Field} (ht : P.underlying t = some (.struct #[f0, f1, f2])) (h0 : f0.type = n ∧ f0.offset = 0) (h1 : f1.type = n ∧ f1.offset = 4) (h2 : f2.type = n ∧ f2.offset = 8) (hcs : P.cellsOf t = 12) {v : Value} (h : Reads P t v) :
    ∃ p q g, p < 2 ^ 256 ∧ q < 2 ^ 256 ∧ g < 2 ^ 256 ∧ v = (VV.agg [.ints .u64 4 (num p), .ints .u64 4 (num q), .ints .u64 4 (num g)]).den id := by
  obtain ⟨⟨H, enc, w, b, sp, hd, fuel, x, k1⟩, w', b', k2⟩ := h
  obtain ⟨p, q, g, hp, hq, hg, hcells⟩ := reads_group hn he hc hct ht h0 h1 h2 hcs k1
  refine ⟨p, q, g, hp, hq, hg, ?_⟩
  unfold Value.okWide at k2
  rw [ht] at k2
  obtain ⟨cs, rfl, _⟩ := k2
  have : cs.toList = _ := hcells
  show Value.agg cs = Value.agg (VV.cellss id _).toArray
  rw [← cells3, ← this]
end
end Go.VM
