/- Plain laws: lemmas that hold with no condition but those that each states. -/
import Derived.Test.YtlncodfolaoilaaQ6
import Derived.WalkKit
import Derived.CallsIn
import Derived.Below
namespace Go.Proofs
open Go.RowKit Go.Shelf Go.VM
theorem entry_ro {P : Program} {f : FuncId} {E : Entry} (h : EntryOK P f E) {vs : List VV} {M : List (Nat × Blk)} {n : Nat} {v : VV} {me : ME} (hk : E (VV × ME) vs M n (fun v me => some (v, me)) = some (v, me))
    (hM : ∀ b x, getA M b = some x → isRo x.2.2 = true ∧ VV.mems x.1 = true ∧ bids x = []) (hok : ∀ u ∈ vs, u.okL ∧ ∀ i ∈ u.ids, i < n) (hup : ∀ b x, getA me.up b = some x → ∀ d y, getA M d = some y → b ≠ d)
    (ρ : Nat → Nat) (W : World) (hold : ∀ b x, getA M b = some x → Holds ρ W b x) (hg : GL W) :
    Calls P f (vs.map (VV.den ρ)).toArray W fun e W' => ∃ ρ', e = .returned (v.den ρ') ∧ (∀ i, i < n → ρ' i = ρ i) ∧ MStep ρ' M me W W' := by
  have ro_own : ∀ {ρ b x k}, isRo x.2.2 = true → ¬ own ρ b x k := by
    rintro ρ b ⟨rs, t, kd⟩ k hr ho
    cases kd <;> simp [isRo, own] at hr ho
  obtain ⟨v', me', h1, h2⟩ := h (VV × ME) vs M n (fun v me => some (v, me)) (v, me) hk
  simp only [Option.some.injEq, Prod.mk.injEq] at h1
  obtain ⟨rfl, rfl⟩ := h1
  obtain ⟨_, _, h3⟩ := h2
  obtain ⟨_, h4⟩ := h3 ρ (· < n) W hok (fun b _ blk hb => ⟨hold b blk hb, (hM b blk hb).2.1, fun i hi => by rw [(hM b blk hb).2.2] at hi; cases hi⟩)
    (fun b c _ _ _ x y hx _ k ho => absurd ho (ro_own (hM b x hx).1)) (fun i hi => by omega) ⟨hg, fun b _ x hx k ho => absurd ho (ro_own (hM b x hx).1)⟩
  exact h4.mono fun e W' ⟨ρ', he, ha, hm⟩ => ⟨ρ', he, fun i hi => ha i (by omega), hm⟩
theorem put8 (k : Nat) (hk : k < 65536) (W : World) : Calls Try.prog 41 #[.slice none 0 0, .int .u64 (k : Int), .int .i64 8] W fun e W' =>
    ∃ B, e = .returned (.slice (some ⟨B, 0, none⟩) 8 8) ∧ W.heap.size ≤ B ∧ W'.heap[B]? = some (.cells ((be 8 k).map (Value.int .u8)).toArray 5 (0, 0)) ∧ Below W.heap.size W W' := by
  have hin : ∀ F, genE 2 f41.inA F (dv1 f41.o0) (VV × ME) [.vw true 0 0 0 1, .int .u64 (k : Int), .int .i64 8] [(0, ([.ints .u8 0 []], 0, .ro))] 2 (fun v me => some (v, me)) = (F (0, (k : Int), 8, 0, [])).bind fun y => some (.sl 2 0 y.1 y.2.1, { rd := [0], up := [(2, ([.ints .u8 y.2.2.2.2.1 y.2.2.2.2.2], 5, .norm))], nn := 1 }) := fun _ => by kernel_rfl
  have hF : f41.F 100000 (0, (k : Int), 8, 0, []) = some (8, 8, 0, [], 8, be 8 k) := f41.spec 100000 0 8 k [] rfl (by omega) (by omega) (by omega)
  have h := entry_ro (show EntryOK Try.prog 41 (genE 2 f41.inA (f41.F 100000) (dv1 f41.o0)) from f41.ok 100000) ((hin _).trans (by rw [hF]; rfl))
    (fun b x hx => by obtain ⟨rfl, rfl⟩ := getA_one hx; exact ⟨rfl, rfl, rfl⟩) (by simp [VV.okL, VV.ids, VV.mem, VV.sto])
    (fun b x hx d y hy => by obtain ⟨rfl, _⟩ := getA_one hx; obtain ⟨rfl, _⟩ := getA_one hy; decide) (fun _ => 0) W
    (fun b x hx => by obtain ⟨rfl, rfl⟩ := getA_one hx; simp [Holds, VV.ws, VV.w]) (fun x hx => by simp [globs] at hx)
  refine h.mono fun e W' ⟨ρ', he, _, hm⟩ => ⟨ρ' 2, he, ?_, ?_, ⟨hm.os, hm.tape, hm.output, hm.size, fun j hj => hm.kept j hj (fun b x hx ho => ?_) fun d hd y hy _ => ?_⟩⟩
  · rcases hm.src 2 _ (getA_self _ _) (ρ' 2) rfl with h | ⟨d, hd, y, hy, ho, _⟩
    · exact h
    · obtain ⟨rfl, rfl⟩ := getA_one hy
      simp [occ, VV.ws, VV.w] at ho
  · have := hm.at' 2 _ (getA_self _ _)
    simp only [Holds] at this
    rw [this]
    have hc : VV.cellss ρ' [.ints .u8 8 (be 8 k)] = (be 8 k).map (Value.int .u8) := by
      simp only [VV.cellss, VV.cells, List.append_nil]
      apply List.ext_getElem (by simp [be_length])
      intro i h1 h2
      have hi : i < 8 := by simpa using h1
      simp [List.getD_eq_getElem?_getD, be_length, hi]
    rw [hc]
  · obtain ⟨rfl, rfl⟩ := getA_one hx
    simp only [own] at ho
    subst ho
    rcases hm.src 2 _ (getA_self _ _) (ρ' 2) rfl with h | ⟨d, hd, y, hy, ho, _⟩
    · omega
    · obtain ⟨rfl, rfl⟩ := getA_one hy
      simp [occ, VV.ws, VV.w] at ho
  · obtain ⟨rfl, rfl⟩ := getA_one hy
    simp [own]
theorem check_calls (K : Nat) (b g : Int) (I from' to' j : List Int) {r : Bool} (h : f29.F K (b, g, I, from', to', j) = some r) (W : World) :
    Calls Try.prog 29 #[(VV.agg [.int .u8 b, .int .u64 g, .ints .u8 32 I]).den id, (VV.agg [.ints .u8 16 from']).den id, (VV.agg [.ints .u8 16 to']).den id, (VV.agg [.ints .u8 32 j]).den id] W fun e W' =>
      e = .returned (.bool r) ∧ Below W.heap.size W W' := by
  have hin : ∀ F, genE 0 f29.inA F (dv1 f29.o0) (VV × ME) [.agg [.int .u8 b, .int .u64 g, .ints .u8 32 I], .agg [.ints .u8 16 from'], .agg [.ints .u8 16 to'], .agg [.ints .u8 32 j]] [] 0 (fun v me => some (v, me)) = (F (b, g, I, from', to', j)).bind fun y => some (.bool y, {}) := fun _ => by kernel_rfl
  have h := entry_ro (show EntryOK Try.prog 29 (genE 0 f29.inA (f29.F K) (dv1 f29.o0)) from f29.ok K) ((hin _).trans (by rw [h]; rfl))
    (fun b x hx => by simp [getA] at hx) (by simp [VV.okL, VV.ids, VV.idss, VV.mem, VV.mems, VV.sto]) (fun b x hx => by simp [getA] at hx) id W (fun b x hx => by simp [getA] at hx) (fun x hx => by simp [globs] at hx)
  exact h.mono fun e W' ⟨ρ', he, _, hm⟩ => ⟨he, ⟨hm.os, hm.tape, hm.output, hm.size, fun j hj => hm.kept j hj (fun b x hx => by simp [getA] at hx) fun d hd => by cases hd⟩⟩
end Go.Proofs
