/- Go functions: for each a Lean function with the same answers, and the proof that the call comes to them, with no condition. -/
import Derived.Test.YtjkelipglcnpmaaFr
import Derived.Test.YtjkelipglcnpmaaPo
namespace Go.VM
open Go Go.ChangeShapes Go.WideShapes Go.ChangeAt Go.RowKit Go.Proofs
section
variable {P : Program}
theorem wf_u8 {z : Int} (h : (Lit.int .u8 z).wf = true) : 0 ≤ z ∧ z < 256 := by
  simp [Lit.wf, IntKind.min, IntKind.max, IntKind.signed, IntKind.bits] at h
  omega
theorem reads_octets {t e : TypeId} {n : Nat} (ht : P.underlying t = some (.array n e)) (he : P.underlying e = some (.int .u8)) (hc : P.cellsOf e = 1) (hct : P.cellsOf t = n) {v : Value} (h : Reads P t v) :
    ∃ l : List Int, (l.length = n ∧ octets l) ∧ v = (VV.agg [.ints .u8 n l]).den id := by
  obtain ⟨⟨H, enc, w, b, sp, hd, fuel, x, h1⟩, w', b', h2⟩ := h
  obtain ⟨g, g1, g2⟩ := trod_ints ht he hc hct h1
  refine ⟨(List.range n).map g, ⟨by simp, ?_⟩, ?_⟩
  · intro x hx
    simp only [List.mem_map, List.mem_range] at hx
    obtain ⟨i, hi, rfl⟩ := hx
    exact wf_u8 (g1 i hi)
  unfold Value.okWide at h2
  rw [ht] at h2
  obtain ⟨cs, rfl, _⟩ := h2
  have : cs.toList = (VV.ints .u8 n ((List.range n).map g)).cells id := by
    show cs.toList = _
    simp only [VV.cells]
    rw [show cs.toList = _ from g2]
    refine List.map_congr_left fun i hi => ?_
    have hi' : i < n := by simpa using hi
    congr 1
    simp [List.getD_eq_getElem?_getD, hi']
  show Value.agg cs = Value.agg (VV.cellss id [.ints .u8 n ((List.range n).map g)]).toArray
  simp only [VV.cellss, List.append_nil]
  rw [← this]
end
end Go.VM
