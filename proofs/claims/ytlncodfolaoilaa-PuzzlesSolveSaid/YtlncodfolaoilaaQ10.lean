/- Plain laws: lemmas that hold with no condition but those that each states. -/
import Derived.Test.YtlncodfolaoilaaQ9
import Derived.Test.YtlncodfolaoilaaQ2
namespace Go.Proofs
open Go.RowKit Go.Shelf Go.VM
attribute [local go_sem] Oper.semAt_some
set_option maxRecDepth 1000000 in
set_option maxHeartbeats 2000000 in
theorem So.refuse (n : Nat) (hn : 5 ≤ n) (b g : Int) (hb : b > 12) (I from' to' : List Int) (w : World) :
    CallsIn Fence.wide n Try.prog 31 #[(VV.agg [.int .u8 b, .int .u64 g, .ints .u8 32 I]).den id, (VV.agg [.ints .u8 16 from']).den id, (VV.agg [.ints .u8 16 to']).den id] w fun e W' =>
      Below w.heap.size w W' ∧ e = .returned (.tuple #[.agg (List.replicate 32 (Value.int .u8 0)).toArray, .int .i64 1]) := by
  have hro : Fence.wide.round = none := rfl
  have h1 : 1 ≤ n := by omega
  obtain ⟨PC, hPC⟩ : ∃ PC : Array Value, (VV.agg [.int .u8 b, .int .u64 g, .ints .u8 32 I]).den id = .agg PC := ⟨_, rfl⟩
  obtain ⟨FC, hFC⟩ : ∃ FC : Array Value, (VV.agg [.ints .u8 16 from']).den id = .agg FC := ⟨_, rfl⟩
  obtain ⟨TC, hTC⟩ : ∃ TC : Array Value, (VV.agg [.ints .u8 16 to']).den id = .agg TC := ⟨_, rfl⟩
  have hP0 : PC[0]? = some (.int .u8 b) := by
    have := hPC; simp [VV.den, VV.den0, VV.cells, VV.cellss] at this; rw [← this]; rfl
  rw [hPC, hFC, hTC]
  refine callsIn_of_wp Try.func31 rfl trivial ?_ hro
  simp only [Try.ntmps31, List.size_toArray, List.length_cons, List.length_nil, Nat.reduceAdd, Nat.reduceSub, Array.replicate_succ, Array.replicate_zero, List.push_toArray, List.append_toArray, List.nil_append, List.cons_append]
  have g3 := World.alloc_heap_new (((w.alloc (.cells PC 53)).alloc (.cells FC 47)).alloc (.cells TC 47)) (.cells #[.int .u8 0, .int .u8 0, .int .u8 0, .int .u8 0, .int .u8 0, .int .u8 0, .int .u8 0, .int .u8 0, .int .u8 0, .int .u8 0, .int .u8 0, .int .u8 0, .int .u8 0, .int .u8 0, .int .u8 0, .int .u8 0, .int .u8 0, .int .u8 0, .int .u8 0, .int .u8 0, .int .u8 0, .int .u8 0, .int .u8 0, .int .u8 0, .int .u8 0, .int .u8 0, .int .u8 0, .int .u8 0, .int .u8 0, .int .u8 0, .int .u8 0, .int .u8 0] 35)
  have g4 := World.alloc_heap_new ((((w.alloc (.cells PC 53)).alloc (.cells FC 47)).alloc (.cells TC 47)).alloc (.cells #[.int .u8 0, .int .u8 0, .int .u8 0, .int .u8 0, .int .u8 0, .int .u8 0, .int .u8 0, .int .u8 0, .int .u8 0, .int .u8 0, .int .u8 0, .int .u8 0, .int .u8 0, .int .u8 0, .int .u8 0, .int .u8 0, .int .u8 0, .int .u8 0, .int .u8 0, .int .u8 0, .int .u8 0, .int .u8 0, .int .u8 0, .int .u8 0, .int .u8 0, .int .u8 0, .int .u8 0, .int .u8 0, .int .u8 0, .int .u8 0, .int .u8 0, .int .u8 0] 35)) (.cells #[.int .i64 0] 32)
  have g3 := Rw.alloc g3 (.cells #[.int .i64 0] 32)
  simp only [World.size_alloc] at g3 g4
  obtain ⟨W3, hst, q1, q2, q3, q4, q5, q6⟩ := So.setrow (W := ((((w.alloc (.cells PC 53)).alloc (.cells FC 47)).alloc (.cells TC 47)).alloc (.cells #[.int .u8 0, .int .u8 0, .int .u8 0, .int .u8 0, .int .u8 0, .int .u8 0, .int .u8 0, .int .u8 0, .int .u8 0, .int .u8 0, .int .u8 0, .int .u8 0, .int .u8 0, .int .u8 0, .int .u8 0, .int .u8 0, .int .u8 0, .int .u8 0, .int .u8 0, .int .u8 0, .int .u8 0, .int .u8 0, .int .u8 0, .int .u8 0, .int .u8 0, .int .u8 0, .int .u8 0, .int .u8 0, .int .u8 0, .int .u8 0, .int .u8 0, .int .u8 0] 35)).alloc (.cells #[.int .i64 0] 32)) (B := w.heap.size + 1 + 1 + 1) (old := List.replicate 32 (Value.int .u8 0)) (new := List.replicate 32 (Value.int .u8 0)) g3 (by simp) (by simp) (by intro v hv; rw [List.eq_of_mem_replicate hv]; rfl)
  have b4 : Boxed W3 (w.heap.size + 1 + 1 + 1 + 1) 32 (.int .i64 0) := (q2 _ (by omega)).trans g4
  have c4 := b4.cell
  have d4 := b4.frozen
  have hB0 : Below w.heap.size w (((((w.alloc (.cells PC 53)).alloc (.cells FC 47)).alloc (.cells TC 47)).alloc (.cells #[.int .u8 0, .int .u8 0, .int .u8 0, .int .u8 0, .int .u8 0, .int .u8 0, .int .u8 0, .int .u8 0, .int .u8 0, .int .u8 0, .int .u8 0, .int .u8 0, .int .u8 0, .int .u8 0, .int .u8 0, .int .u8 0, .int .u8 0, .int .u8 0, .int .u8 0, .int .u8 0, .int .u8 0, .int .u8 0, .int .u8 0, .int .u8 0, .int .u8 0, .int .u8 0, .int .u8 0, .int .u8 0, .int .u8 0, .int .u8 0, .int .u8 0, .int .u8 0] 35)).alloc (.cells #[.int .i64 0] 32)) :=
    (((((Below.refl _ w).alloc (by omega) _).alloc (by simp) _).alloc (by simp; omega) _).alloc (by simp; omega) _).alloc (by simp; omega) _
  clear g3 g4
  gi_wp2_with (refine So.st rfl rfl hst ?_)
  have b5 := Rw.set_box b4 (.int .i64 1)
  have hBe : Below w.heap.size w (W3.setCell ⟨w.heap.size + 1 + 1 + 1 + 1, 0, none⟩ (.int .i64 1)) :=
    ⟨q4.trans hB0.os, q5.trans hB0.tape, q6.trans hB0.output, by rw [World.size_setCell, q3]; exact hB0.size, fun j hj => (Below.heap_setCell _ _ _ _ (by simp; omega)).trans ((q2 j (by omega)).trans (hB0.block j hj))⟩
  refine bodyPost_ret (So.results2 (s := w.heap.size + 1 + 1 + 1) rfl rfl (Rw.set_other q1 (by omega) _) (by simp) b5) rfl ?_
  exact ⟨hBe, rfl⟩
open Classical in
noncomputable def So.first (p : Nat → Bool) : Nat → Nat → Option Nat
  | 0, _ => none
  | n + 1, k => if p k = true then some k else So.first p n (k + 1)
theorem So.first_none (p : Nat → Bool) : ∀ n k, (∀ j, k ≤ j → j < k + n → p j = false) → So.first p n k = none
  | 0, _, _ => rfl
  | n + 1, k, h => by rw [So.first, if_neg (by rw [h k (by omega) (by omega)]; simp)]; exact So.first_none p n (k + 1) fun j h1 h2 => h j (by omega) (by omega)
theorem So.first_some (p : Nat → Bool) (m : Nat) (hm : p m = true) : ∀ n k, k ≤ m → m < k + n → (∀ j, k ≤ j → j < m → p j = false) → So.first p n k = some m
  | 0, _, h1, h2, _ => by omega
  | n + 1, k, h1, h2, h => by
    rw [So.first]
    by_cases e : k = m
    · subst e; rw [if_pos hm]
    · rw [if_neg (by rw [h k (by omega) (by omega)]; simp)]
      exact So.first_some p m hm n (k + 1) (by omega) (by omega) fun j h3 h4 => h j (by omega) h4
noncomputable def So.pass (K : Nat) (x : Int × Int × List Int × List Int × List Int) (k : Nat) : Bool := (f29.F K (x.1, x.2.1, x.2.2.1, x.2.2.2.1, x.2.2.2.2, So.cand k)).getD false
open Classical in
noncomputable def f31.F (K : Nat) (x : Int × Int × List Int × List Int × List Int) : Option (List Int × Int) :=
  if x.1 > 12 then some ([0, 0, 0, 0, 0, 0, 0, 0, 0, 0, 0, 0, 0, 0, 0, 0, 0, 0, 0, 0, 0, 0, 0, 0, 0, 0, 0, 0, 0, 0, 0, 0], 1)
  else if ∀ k, ∃ r, f29.F K (x.1, x.2.1, x.2.2.1, x.2.2.2.1, x.2.2.2.2, So.cand k) = some r then
    match So.first (So.pass K x) 65536 0 with
    | some k => some (So.cand k, 0)
    | none => some ([0, 0, 0, 0, 0, 0, 0, 0, 0, 0, 0, 0, 0, 0, 0, 0, 0, 0, 0, 0, 0, 0, 0, 0, 0, 0, 0, 0, 0, 0, 0, 0], 12)
  else none
def f31.av (x : Int × Int × List Int × List Int × List Int) : List VV := [.agg [.int .u8 x.1, .int .u64 x.2.1, .ints .u8 32 x.2.2.1], .agg [.ints .u8 16 x.2.2.2.1], .agg [.ints .u8 16 x.2.2.2.2]]
def f31.bl (_x : Int × Int × List Int × List Int × List Int) : List (Nat × Blk) := []
def f31.inA : VS → Option (Int × Int × List Int × List Int × List Int)
  | ⟨[(0, .agg [.int .u8 a0, .int .u64 a1, .ints .u8 32 a2]), (1, .agg [.ints .u8 16 a3]), (2, .agg [.ints .u8 16 a4])], [], 0⟩ => some (a0, a1, a2, a3, a4)
  | _ => none
def f31.o0 (y : List Int × Int) : VS := ⟨[(0, .tup [.agg [.ints .u8 32 y.1], .int .i64 y.2])], [], 0⟩
noncomputable def f31.E (K : Nat) : Entry := genE 0 f31.inA (f31.F K) (dv1 f31.o0)
theorem f31.does (K : Nat) (x : Int × Int × List Int × List Int × List Int) (y : List Int × Int) (h : f31.F K x = some y) : Does Try.prog 31 0 (f31.av x) (f31.bl x) (f31.o0 y) := by
  refine ⟨Nat.le_refl _, fun b z hz => by simp [f31.o0, getA] at hz, fun v hv => ?_⟩
  have hv : v = .tup [.agg [.ints .u8 32 y.1], .int .i64 y.2] := by simpa [f31.o0, getA] using hv.symm
  subst hv
  refine ⟨by simp [VV.okL, VV.mem, VV.mems], by simp [VV.ids, VV.idss], fun ρ w _ _ _ _ => ?_⟩
  obtain ⟨b, g, I, f, t⟩ := x
  have hargs : ((f31.av (b, g, I, f, t)).map (VV.den ρ)).toArray = #[(VV.agg [.int .u8 b, .int .u64 g, .ints .u8 32 I]).den id, (VV.agg [.ints .u8 16 f]).den id, (VV.agg [.ints .u8 16 t]).den id] := rfl
  rw [hargs]
  have fin : ∀ e W', Below w.heap.size w W' → e = Ending.returned ((VV.tup [.agg [.ints .u8 32 y.1], .int .i64 y.2]).den id) → ∃ ρ', e = Ending.returned ((VV.tup [.agg [.ints .u8 32 y.1], .int .i64 y.2]).den ρ') ∧ Go.VM.Left 0 (f31.bl (b, g, I, f, t)) (f31.o0 y) ρ ρ' w W' := by
    rintro e W' hB rfl
    exact ⟨ρ, rfl, ⟨fun i hi => rfl, fun b z hz => by simp [f31.o0, getA] at hz, fun b d _ x z hz => by simp [f31.o0, getA] at hz, fun b z hz => by simp [f31.o0, getA] at hz, hB.os, hB.tape, hB.output, hB.size, fun j hj _ => hB.block j hj⟩⟩
  unfold f31.F at h
  simp only at h
  by_cases hb : b > 12
  · rw [if_pos hb] at h
    simp only [Option.some.injEq] at h
    subst h
    refine (callsIn_wide.1 (So.refuse 5 (by omega) b g hb I f t w)).mono fun e W' ⟨hB, he⟩ => fin e W' hB (he.trans ?_)
    rfl
  · rw [if_neg hb] at h
    by_cases hc : ∀ k, ∃ r, f29.F K (b, g, I, f, t, So.cand k) = some r
    · rw [if_pos hc] at h
      have hp : ∀ k, f29.F K (b, g, I, f, t, So.cand k) = some (So.pass K (b, g, I, f, t) k) := fun k => by
        obtain ⟨r, hr⟩ := hc k
        rw [So.pass]; simp only; rw [hr]; rfl
      have hcall := callsIn_wide.1 (So.solve 65536 (by omega) 5 (by omega) K b g hb I f t _ hp w)
      refine hcall.mono fun e W' ⟨hB, he⟩ => fin e W' hB ?_
      rcases he with ⟨rfl, hall⟩ | ⟨k, hk, rfl, hpk, hbef⟩
      · rw [So.first_none _ 65536 0 (fun j _ hj => hall j (by omega))] at h
        simp only [Option.some.injEq] at h
        subst h
        rfl
      · rw [So.first_some _ k hpk 65536 0 (by omega) (by omega) (fun j _ hj => hbef j hj)] at h
        simp only [Option.some.injEq] at h
        subst h
        show Ending.returned (Value.tuple #[So.enc k, .int .i64 0]) = _
        rw [← So.den_eq]
        rfl
    · rw [if_neg hc] at h; cases h
theorem f31.ok (K : Nat) : EntryOK Try.prog 31 (f31.E K) :=
  hand_ok (X := Int × Int × List Int × List Int × List Int) (Y := List Int × Int) Try.func31 (by kernel_rfl : Try.f31.body = some (Try.f31.body.getD .skip)) (by kernel_rfl) (av := f31.av) (bl := f31.bl) (out := f31.o0)
    (by intro s x h; unfold f31.inA at h; split at h <;> simp at h; subst h; rfl) (fun _ _ _ => rfl) (fun x y h => f31.does K x y h)
end Go.Proofs
