/- Go functions: for each a Lean function with the same answers, and the proof that the call comes to them, with no condition. -/
import Derived.Test.YtjkelipglcnpmaaVmb
import Derived.Test.YtjkelipglcnpmaaProg
import Derived.KernelRfl
namespace Go.Proofs
open Go.VM
theorem mix : Try.prog.follows .mixedOrders = true := by kernel_rfl
noncomputable def bodyOf (f : Func) : Code := f.body.getD .skip
def ti3 : TI := ⟨1, (Go.TypeDesc.int Go.IntKind.i64), [.int .i64 0], 0, [], false, 0⟩
theorem ty3 : TyOK Try.prog 3 ti3 := ⟨by kernel_rfl, by kernel_rfl, rfl, rfl, rfl, rfl, trivial, trivial, fun h => absurd rfl h, fun h => by cases h⟩
def ti4 : TI := ⟨1, Go.TypeDesc.bool, [.bool false], 0, [], false, 0⟩
theorem ty4 : TyOK Try.prog 4 ti4 := ⟨by kernel_rfl, by kernel_rfl, rfl, rfl, rfl, rfl, trivial, trivial, fun h => absurd rfl h, fun h => by cases h⟩
def ti5 : TI := ⟨1, (Go.TypeDesc.int Go.IntKind.u8), [.int .u8 0], 0, [], false, 1⟩
theorem ty5 : TyOK Try.prog 5 ti5 := ⟨by kernel_rfl, by kernel_rfl, rfl, rfl, rfl, rfl, trivial, trivial, fun _ => by kernel_rfl, fun h => by cases h⟩
def ti9 : TI := ⟨1, Go.TypeDesc.string, [.str ByteArray.empty], 0, [], false, 0⟩
theorem ty9 : TyOK Try.prog 9 ti9 := ⟨by kernel_rfl, by kernel_rfl, rfl, rfl, rfl, rfl, trivial, trivial, fun h => absurd rfl h, fun h => by cases h⟩
def ti22 : TI := ⟨1, (Go.TypeDesc.int Go.IntKind.u64), [.int .u64 0], 0, [], false, 0⟩
theorem ty22 : TyOK Try.prog 22 ti22 := ⟨by kernel_rfl, by kernel_rfl, rfl, rfl, rfl, rfl, trivial, trivial, fun h => absurd rfl h, fun h => by cases h⟩
def ti24 : TI := ⟨4, .array 4 22, [.ints .u64 4 [0, 0, 0, 0]], 1, [], true, 0⟩
theorem ty24 : TyOK Try.prog 24 ti24 := ⟨by kernel_rfl, by kernel_rfl, rfl, rfl, rfl, rfl, by show _ = _; kernel_rfl, trivial, fun h => absurd rfl h, fun _ => eqs_arr (e := 22) (by kernel_rfl) (by kernel_rfl) ⟨.u64, by kernel_rfl⟩ (by kernel_rfl)⟩
def ti30 : TI := ⟨1, (Go.TypeDesc.int Go.IntKind.u64), [.int .u64 0], 0, [], false, 0⟩
theorem ty30 : TyOK Try.prog 30 ti30 := ⟨by kernel_rfl, by kernel_rfl, rfl, rfl, rfl, rfl, trivial, trivial, fun h => absurd rfl h, fun h => by cases h⟩
def ti47 : TI := ⟨1, (Go.TypeDesc.func #[24, 24] #[24] false), [.raw .nilFunc], 0, [], false, 0⟩
theorem ty47 : TyOK Try.prog 47 ti47 := ⟨by kernel_rfl, by kernel_rfl, rfl, rfl, rfl, rfl, trivial, trivial, fun h => absurd rfl h, fun h => by cases h⟩
def ti50 : TI := ⟨1, (Go.TypeDesc.int Go.IntKind.u32), [.int .u32 0], 0, [], false, 0⟩
theorem ty50 : TyOK Try.prog 50 ti50 := ⟨by kernel_rfl, by kernel_rfl, rfl, rfl, rfl, rfl, trivial, trivial, fun h => absurd rfl h, fun h => by cases h⟩
def ti53 : TI := ⟨1, (Go.TypeDesc.int Go.IntKind.u16), [.int .u16 0], 0, [], false, 0⟩
theorem ty53 : TyOK Try.prog 53 ti53 := ⟨by kernel_rfl, by kernel_rfl, rfl, rfl, rfl, rfl, trivial, trivial, fun h => absurd rfl h, fun h => by cases h⟩
def ti57 : TI := ⟨12, (Go.TypeDesc.struct #[{ name := "P", type := 24, offset := 0, embedded := false, tag := "", pkgPath := "", byteOffset := 0 }, { name := "Q", type := 24, offset := 4, embedded := false, tag := "", pkgPath := "", byteOffset := 32 }, { name := "G", type := 24, offset := 8, embedded := false, tag := "", pkgPath := "", byteOffset := 64 }]), [.ints .u64 4 [0, 0, 0, 0], .ints .u64 4 [0, 0, 0, 0], .ints .u64 4 [0, 0, 0, 0]], 0, [4, 4, 4], false, 0⟩
theorem ty57 : TyOK Try.prog 57 ti57 := ⟨by kernel_rfl, by kernel_rfl, rfl, rfl, rfl, rfl, trivial, by show _ = _; kernel_rfl, fun h => absurd rfl h, fun h => by cases h⟩
def ti64 : TI := ⟨24, (Go.TypeDesc.struct #[{ name := "G", type := 57, offset := 0, embedded := false, tag := "", pkgPath := "", byteOffset := 0 }, { name := "A", type := 24, offset := 12, embedded := false, tag := "", pkgPath := "", byteOffset := 96 }, { name := "B", type := 24, offset := 16, embedded := false, tag := "", pkgPath := "", byteOffset := 128 }, { name := "N", type := 24, offset := 20, embedded := false, tag := "", pkgPath := "", byteOffset := 160 }]), [.ints .u64 4 [0, 0, 0, 0], .ints .u64 4 [0, 0, 0, 0], .ints .u64 4 [0, 0, 0, 0], .ints .u64 4 [0, 0, 0, 0], .ints .u64 4 [0, 0, 0, 0], .ints .u64 4 [0, 0, 0, 0]], 0, [12, 4, 4, 4], false, 0⟩
theorem ty64 : TyOK Try.prog 64 ti64 := ⟨by kernel_rfl, by kernel_rfl, rfl, rfl, rfl, rfl, trivial, by show _ = _; kernel_rfl, fun h => absurd rfl h, fun h => by cases h⟩
def ti67 : TI := ⟨24, (Go.TypeDesc.struct #[{ name := "G", type := 57, offset := 0, embedded := false, tag := "", pkgPath := "", byteOffset := 0 }, { name := "A", type := 24, offset := 12, embedded := false, tag := "", pkgPath := "", byteOffset := 96 }, { name := "N", type := 24, offset := 16, embedded := false, tag := "", pkgPath := "", byteOffset := 128 }, { name := "M", type := 24, offset := 20, embedded := false, tag := "", pkgPath := "", byteOffset := 160 }]), [.ints .u64 4 [0, 0, 0, 0], .ints .u64 4 [0, 0, 0, 0], .ints .u64 4 [0, 0, 0, 0], .ints .u64 4 [0, 0, 0, 0], .ints .u64 4 [0, 0, 0, 0], .ints .u64 4 [0, 0, 0, 0]], 0, [12, 4, 4, 4], false, 0⟩
theorem ty67 : TyOK Try.prog 67 ti67 := ⟨by kernel_rfl, by kernel_rfl, rfl, rfl, rfl, rfl, trivial, by show _ = _; kernel_rfl, fun h => absurd rfl h, fun h => by cases h⟩
def ti78 : TI := ⟨8, .array 8 22, [.ints .u64 8 [0, 0, 0, 0, 0, 0, 0, 0]], 1, [], true, 0⟩
theorem ty78 : TyOK Try.prog 78 ti78 := ⟨by kernel_rfl, by kernel_rfl, rfl, rfl, rfl, rfl, by show _ = _; kernel_rfl, trivial, fun h => absurd rfl h, fun _ => eqs_arr (e := 22) (by kernel_rfl) (by kernel_rfl) ⟨.u64, by kernel_rfl⟩ (by kernel_rfl)⟩
def ti80 : TI := ⟨16, .array 2 78, [.ints .u64 16 [0, 0, 0, 0, 0, 0, 0, 0, 0, 0, 0, 0, 0, 0, 0, 0]], 8, [], false, 0⟩
theorem ty80 : TyOK Try.prog 80 ti80 := ⟨by kernel_rfl, by kernel_rfl, rfl, rfl, rfl, rfl, by show _ = _; kernel_rfl, trivial, fun h => absurd rfl h, fun h => by cases h⟩
def ti83 : TI := ⟨2, .array 2 22, [.ints .u64 2 [0, 0]], 1, [], true, 0⟩
theorem ty83 : TyOK Try.prog 83 ti83 := ⟨by kernel_rfl, by kernel_rfl, rfl, rfl, rfl, rfl, by show _ = _; kernel_rfl, trivial, fun h => absurd rfl h, fun _ => eqs_arr (e := 22) (by kernel_rfl) (by kernel_rfl) ⟨.u64, by kernel_rfl⟩ (by kernel_rfl)⟩
def ti84 : TI := ⟨1, .slice 5, [.raw (.slice none 0 0)], 1, [], false, 0⟩
theorem ty84 : TyOK Try.prog 84 ti84 := ⟨by kernel_rfl, by kernel_rfl, rfl, rfl, rfl, rfl, by show _ = _; kernel_rfl, trivial, fun h => absurd rfl h, fun h => by cases h⟩
def ti89 : TI := ⟨1, .slice 24, [.raw (.slice none 0 0)], 4, [], false, 0⟩
theorem ty89 : TyOK Try.prog 89 ti89 := ⟨by kernel_rfl, by kernel_rfl, rfl, rfl, rfl, rfl, by show _ = _; kernel_rfl, trivial, fun h => absurd rfl h, fun h => by cases h⟩
def ti95 : TI := ⟨3, (Go.TypeDesc.struct #[{ name := "plus", type := 47, offset := 0, embedded := false, tag := "", pkgPath := "burrow/mods", byteOffset := 0 }, { name := "less", type := 47, offset := 1, embedded := false, tag := "", pkgPath := "burrow/mods", byteOffset := 8 }, { name := "times", type := 47, offset := 2, embedded := false, tag := "", pkgPath := "burrow/mods", byteOffset := 16 }]), [.raw .nilFunc, .raw .nilFunc, .raw .nilFunc], 0, [1, 1, 1], false, 0⟩
theorem ty95 : TyOK Try.prog 95 ti95 := ⟨by kernel_rfl, by kernel_rfl, rfl, rfl, rfl, rfl, trivial, by show _ = _; kernel_rfl, fun h => absurd rfl h, fun h => by cases h⟩
def ti99 : TI := ⟨8, (Go.TypeDesc.struct #[{ name := "n", type := 24, offset := 0, embedded := false, tag := "", pkgPath := "burrow/mods", byteOffset := 0 }, { name := "by", type := 24, offset := 4, embedded := false, tag := "", pkgPath := "burrow/mods", byteOffset := 32 }]), [.ints .u64 4 [0, 0, 0, 0], .ints .u64 4 [0, 0, 0, 0]], 0, [4, 4], false, 0⟩
theorem ty99 : TyOK Try.prog 99 ti99 := ⟨by kernel_rfl, by kernel_rfl, rfl, rfl, rfl, rfl, trivial, by show _ = _; kernel_rfl, fun h => absurd rfl h, fun h => by cases h⟩
def ti105 : TI := ⟨12, (Go.TypeDesc.struct #[{ name := "Group", type := 57, offset := 0, embedded := true, tag := "", pkgPath := "", byteOffset := 0 }]), [.ints .u64 4 [0, 0, 0, 0], .ints .u64 4 [0, 0, 0, 0], .ints .u64 4 [0, 0, 0, 0]], 0, [12], false, 0⟩
theorem ty105 : TyOK Try.prog 105 ti105 := ⟨by kernel_rfl, by kernel_rfl, rfl, rfl, rfl, rfl, trivial, by show _ = _; kernel_rfl, fun h => absurd rfl h, fun h => by cases h⟩
def ti107 : TI := ⟨20, (Go.TypeDesc.struct #[{ name := "ring", type := 105, offset := 0, embedded := true, tag := "", pkgPath := "burrow/groups", byteOffset := 0 }, { name := "a", type := 24, offset := 12, embedded := false, tag := "", pkgPath := "burrow/groups", byteOffset := 96 }, { name := "b", type := 24, offset := 16, embedded := false, tag := "", pkgPath := "burrow/groups", byteOffset := 128 }]), [.ints .u64 4 [0, 0, 0, 0], .ints .u64 4 [0, 0, 0, 0], .ints .u64 4 [0, 0, 0, 0], .ints .u64 4 [0, 0, 0, 0], .ints .u64 4 [0, 0, 0, 0]], 0, [12, 4, 4], false, 0⟩
theorem ty107 : TyOK Try.prog 107 ti107 := ⟨by kernel_rfl, by kernel_rfl, rfl, rfl, rfl, rfl, trivial, by show _ = _; kernel_rfl, fun h => absurd rfl h, fun h => by cases h⟩
def tys : Tab := [(3, ti3), (4, ti4), (5, ti5), (9, ti9), (22, ti22), (24, ti24), (30, ti30), (47, ti47), (50, ti50), (53, ti53), (57, ti57), (64, ti64), (67, ti67), (78, ti78), (80, ti80), (83, ti83), (84, ti84), (89, ti89), (95, ti95), (99, ti99), (105, ti105), (107, ti107)]
theorem tys_ok : TyAll Try.prog (getA tys) := tyAll_of (by
  intro p hp
  simp only [tys, List.mem_cons, List.not_mem_nil, or_false] at hp
  rcases hp with rfl | rfl | rfl | rfl | rfl | rfl | rfl | rfl | rfl | rfl | rfl | rfl | rfl | rfl | rfl | rfl | rfl | rfl | rfl | rfl | rfl | rfl
  · exact ty3
  · exact ty4
  · exact ty5
  · exact ty9
  · exact ty22
  · exact ty24
  · exact ty30
  · exact ty47
  · exact ty50
  · exact ty53
  · exact ty57
  · exact ty64
  · exact ty67
  · exact ty78
  · exact ty80
  · exact ty83
  · exact ty84
  · exact ty89
  · exact ty95
  · exact ty99
  · exact ty105
  · exact ty107)
end Go.Proofs

namespace Go.Proofs
open Go.VM
/-! ### burrow/limbs.apart -/
noncomputable def f92.c : Code := bodyOf Try.f92
def f92.lp (_ : Nat) : Nat → Option (Hint × Summ) := fun _ => none
noncomputable def f92.tab (_K : Nat) : List (Nat × Entry) := []
theorem f92.tabOK (K : Nat) : SpecOK Try.prog (tabSp (f92.tab K)) := tab_ok ( tab_nil)
theorem f92.loops (K : Nat) : LoopsOK Try.prog 20 0 (f92.lp K) f92.c := loops_ok (by
  have h : loopsIn (f92.lp K) f92.c = [] := by kernel_rfl
  rw [h]; simp)
def f92.T (_K : Nat) (a0 : List Int) : Option (List Int) :=
  some ([(bits .and .u64 (Int.fdiv (List.getD a0 0 0) (2 ^ 0)) 4294967295), (bits .and .u64 (Int.fdiv (List.getD a0 0 0) (2 ^ 32)) 4294967295), (bits .and .u64 (Int.fdiv (List.getD a0 1 0) (2 ^ 0)) 4294967295), (bits .and .u64 (Int.fdiv (List.getD a0 1 0) (2 ^ 32)) 4294967295), (bits .and .u64 (Int.fdiv (List.getD a0 2 0) (2 ^ 0)) 4294967295), (bits .and .u64 (Int.fdiv (List.getD a0 2 0) (2 ^ 32)) 4294967295), (bits .and .u64 (Int.fdiv (List.getD a0 3 0) (2 ^ 0)) 4294967295), (bits .and .u64 (Int.fdiv (List.getD a0 3 0) (2 ^ 32)) 4294967295)])
def f92.F (K : Nat) (x : List Int) : Option (List Int) := f92.T K x
def f92.av (x : List Int) : List VV := [.agg [.ints .u64 4 x]]
def f92.bl (_x : List Int) : List (Nat × Blk) := []
def f92.inA : VS → Option (List Int)
  | ⟨[(0, .agg [.ints .u64 4 a0])], [], 0⟩ => some a0
  | _ => none
def f92.o0 (y : List Int) : VS := ⟨[(0, .agg [.ints .u64 8 y])], [], 0⟩
def f92.des : ∀ α : Type, (List Int) → (VS → Option α) → Option α := (dv1 f92.o0)
def f92.out : List Int → VS := f92.o0
def f92.inR : VS → Option (List Int)
  | ⟨[(0, .agg [.ints .u64 8 y])], [], 0⟩ => some y
  | _ => none
noncomputable def f92.E (K : Nat) : Entry := genE 0 f92.inA (f92.F K) f92.des
theorem f92.eq (K : Nat) (x : List Int) : f92.F K x = xrun (getA tys) (tabSp (f92.tab K)) Try.f92.ntmps 0 (f92.lp K) 400 f92.c ⟨initL 0 (f92.av x), f92.bl x, 0⟩ (contF (getA tys) 0 Try.f92.results.toList f92.inR) := by kernel_rfl
theorem f92.ok (K : Nat) : EntryOK Try.prog 92 (f92.E K) :=
  gen_ok mix tys_ok (f92.tabOK K) Try.func92 (by kernel_rfl : Try.f92.body = some f92.c) (by kernel_rfl) (f92.loops K) (av := f92.av) (bl := f92.bl) (out := f92.out) (fuel := 400)
    (by intro s x h; unfold f92.inA at h; split at h <;> simp at h; subst h; rfl) (fun _ => Nat.le_of_ble_eq_true rfl)
    (by intro s y h; unfold f92.inR at h; split at h <;> simp at h <;> subst h <;> rfl) (fun _ _ _ => rfl) (f92.eq K)
end Go.Proofs

namespace Go.Proofs
open Go.VM
/-! ### (burrow/limbs.halves).whole -/
noncomputable def f93.c : Code := bodyOf Try.f93
def f93.lp (_ : Nat) : Nat → Option (Hint × Summ) := fun _ => none
noncomputable def f93.tab (_K : Nat) : List (Nat × Entry) := []
theorem f93.tabOK (K : Nat) : SpecOK Try.prog (tabSp (f93.tab K)) := tab_ok ( tab_nil)
theorem f93.loops (K : Nat) : LoopsOK Try.prog 22 0 (f93.lp K) f93.c := loops_ok (by
  have h : loopsIn (f93.lp K) f93.c = [] := by kernel_rfl
  rw [h]; simp)
def f93.T (_K : Nat) (a0 : List Int) : Option (List Int) :=
  some ([(bits .or .u64 (IntKind.wrap .u64 ((List.getD a0 1 0) * 2 ^ 32)) (List.getD a0 0 0)), (bits .or .u64 (IntKind.wrap .u64 ((List.getD a0 3 0) * 2 ^ 32)) (List.getD a0 2 0)), (bits .or .u64 (IntKind.wrap .u64 ((List.getD a0 5 0) * 2 ^ 32)) (List.getD a0 4 0)), (bits .or .u64 (IntKind.wrap .u64 ((List.getD a0 7 0) * 2 ^ 32)) (List.getD a0 6 0))])
def f93.F (K : Nat) (x : List Int) : Option (List Int) := f93.T K x
def f93.av (x : List Int) : List VV := [.agg [.ints .u64 8 x]]
def f93.bl (_x : List Int) : List (Nat × Blk) := []
def f93.inA : VS → Option (List Int)
  | ⟨[(0, .agg [.ints .u64 8 a0])], [], 0⟩ => some a0
  | _ => none
def f93.o0 (y : List Int) : VS := ⟨[(0, .agg [.ints .u64 4 y])], [], 0⟩
def f93.des : ∀ α : Type, (List Int) → (VS → Option α) → Option α := (dv1 f93.o0)
def f93.out : List Int → VS := f93.o0
def f93.inR : VS → Option (List Int)
  | ⟨[(0, .agg [.ints .u64 4 y])], [], 0⟩ => some y
  | _ => none
noncomputable def f93.E (K : Nat) : Entry := genE 0 f93.inA (f93.F K) f93.des
theorem f93.eq (K : Nat) (x : List Int) : f93.F K x = xrun (getA tys) (tabSp (f93.tab K)) Try.f93.ntmps 0 (f93.lp K) 400 f93.c ⟨initL 0 (f93.av x), f93.bl x, 0⟩ (contF (getA tys) 0 Try.f93.results.toList f93.inR) := by kernel_rfl
theorem f93.ok (K : Nat) : EntryOK Try.prog 93 (f93.E K) :=
  gen_ok mix tys_ok (f93.tabOK K) Try.func93 (by kernel_rfl : Try.f93.body = some f93.c) (by kernel_rfl) (f93.loops K) (av := f93.av) (bl := f93.bl) (out := f93.out) (fuel := 400)
    (by intro s x h; unfold f93.inA at h; split at h <;> simp at h; subst h; rfl) (fun _ => Nat.le_of_ble_eq_true rfl)
    (by intro s y h; unfold f93.inR at h; split at h <;> simp at h <;> subst h <;> rfl) (fun _ _ _ => rfl) (f93.eq K)
end Go.Proofs

namespace Go.Proofs
open Go.VM
/-! ### burrow/limbs.Mul$1 -/
noncomputable def f94.c : Code := bodyOf Try.f94
def f94.s0t (_K : Nat) (rec : Int × Int × List Int → Option (List Int)) (t0 : Int) (t5 : Int) (b0 : List Int) : Option (List Int) :=
  bif (decide (t5 > 0)) then
    let v2 := IntKind.wrap .i64 (Int.tdiv t0 8)
    let v3 := Int.tmod t0 8
    bif decide (0 ≤ v2 ∧ v2 < 2) then
      bif decide (0 ≤ v3 ∧ v3 < 8) then
        let v5 := ((Int.toNat v2) * 8) + (Int.toNat v3)
        let v7 := IntKind.wrap .u64 (t5 + (List.getD b0 v5 0))
        rec ((IntKind.wrap .i64 (t0 + 1)), (Int.fdiv v7 (2 ^ 32)), (setD b0 v5 (bits .and .u64 v7 4294967295)))
      else
        none
    else
      none
  else
    some b0
def f94.s0 (K : Nat) (rec : Int × Int × List Int → Option (List Int)) (x : Int × Int × List Int) : Option (List Int) := f94.s0t K rec x.1 x.2.1 x.2.2
noncomputable def f94.s0.b : Code := (findLoop 0 f94.c).getD .skip
def f94.s0.h : Hint := { lv := [0, 2, 5] }
def f94.s0.ho : Hint := { lv := [] }
def f94.s0.shp (x : Int × Int × List Int) : VS := ⟨[(0, .int .i64 x.1), (2, .ptr 0 0), (5, .int .u64 x.2.1)], [(0, ([.ints .u64 16 x.2.2], 80, .norm))], 1⟩
def f94.s0.inX : VS → Option (Int × Int × List Int)
  | ⟨[(0, .int .i64 t0), (2, .ptr 0 0), (5, .int .u64 t5)], [(0, ([.ints .u64 16 b0], 80, .norm))], 1⟩ => some (t0, t5, b0)
  | _ => none
def f94.s0.o0 (y : List Int) : VS := ⟨[], [(0, ([.ints .u64 16 y], 80, .norm))], 1⟩
def f94.s0.des : ∀ α : Type, (List Int) → (Ex → VS → Option α) → Option α := (des1 (.exit 0) f94.s0.o0)
def f94.s0.out : List Int → Ex × VS := (fun y => (.exit 0, f94.s0.o0 y))
theorem f94.s0.desOK : ∀ α y (k : Ex → VS → Option α), f94.s0.des α y k = k (f94.s0.out y).1 (f94.s0.out y).2 := (fun _ _ _ => rfl)
def f94.s0.inY : Ex → VS → Option (List Int)
  | .exit 0, ⟨[], [(0, ([.ints .u64 16 b0], 80, .norm))], 1⟩ => some b0
  | _, _ => none
def f94.lp (K : Nat) : Nat → Option (Hint × Summ) := tabLp [(0, f94.s0.h, summOf (iter (f94.s0 K) K) f94.s0.inX f94.s0.des)]
noncomputable def f94.tab (_K : Nat) : List (Nat × Entry) := []
theorem f94.tabOK (K : Nat) : SpecOK Try.prog (tabSp (f94.tab K)) := tab_ok ( tab_nil)
theorem f94.s0.eq (K : Nat) (rec : Int × Int × List Int → Option (List Int)) (x : Int × Int × List Int) : f94.s0 K rec x = roundL (getA tys) (tabSp (f94.tab K)) 29 1 (f94.lp K) 400 f94.s0.b f94.s0.h f94.s0.ho f94.s0.shp f94.s0.inX f94.s0.inY rec x := by kernel_rfl
theorem f94.s0.lok (K : Nat) : LoopsOK Try.prog 29 1 (f94.lp K) f94.s0.b := loops_ok (by
  have h : loopsIn (f94.lp K) f94.s0.b = [] := by kernel_rfl
  rw [h]; simp)
theorem f94.s0.ok (K : Nat) : SummOK Try.prog 29 1 (summOf (iter (f94.s0 K) K) f94.s0.inX f94.s0.des) f94.s0.b :=
  loop_ok mix tys_ok (f94.tabOK K) (h := f94.s0.h) (ho := f94.s0.ho) (shp := f94.s0.shp) (inX := f94.s0.inX) (des := f94.s0.des) (out := f94.s0.out) (inY := f94.s0.inY) (fuel := 400)
    (by intro st x h; unfold f94.s0.inX at h; split at h <;> simp at h; subst h; rfl)
    (by intro e st y h; unfold f94.s0.inY at h; split at h <;> simp at h <;> subst h <;> rfl)
    f94.s0.desOK (f94.s0.lok K) (f94.s0 K) (f94.s0.eq K) K
theorem f94.loops (K : Nat) : LoopsOK Try.prog 29 1 (f94.lp K) f94.c := loops_ok (by
  have h : loopsIn (f94.lp K) f94.c = [(0, f94.s0.b)] := by kernel_rfl
  rw [h]
  intro p hp
  simp only [List.mem_cons, List.not_mem_nil, or_false] at hp
  rcases hp with rfl
  · exact ⟨_, rfl, (f94.s0.ok K)⟩)
def f94.T (K : Nat) (a0 : Int) (a1 : Int) (m0 : List Int) : Option (List Int) :=
  (iter (f94.s0 K) K (a0, a1, m0)).bind fun y12 =>
  some y12
def f94.F (K : Nat) (x : Int × Int × List Int) : Option (List Int) := f94.T K x.1 x.2.1 x.2.2
def f94.av (x : Int × Int × List Int) : List VV := [.int .i64 x.1, .int .u64 x.2.1, .ptr 0 0]
def f94.bl (x : Int × Int × List Int) : List (Nat × Blk) := [(0, ([.ints .u64 16 x.2.2], 80, .norm))]
def f94.inA : VS → Option (Int × Int × List Int)
  | ⟨[(0, .int .i64 a0), (1, .int .u64 a1), (2, .ptr 0 0)], [(0, ([.ints .u64 16 m0], 80, .norm))], 1⟩ => some (a0, a1, m0)
  | _ => none
def f94.o0 (y : List Int) : VS := ⟨[(0, .tup [])], [(0, ([.ints .u64 16 y], 80, .norm))], 1⟩
def f94.des : ∀ α : Type, (List Int) → (VS → Option α) → Option α := (dv1 f94.o0)
def f94.out : List Int → VS := f94.o0
def f94.inR : VS → Option (List Int)
  | ⟨[(0, .tup [])], [(0, ([.ints .u64 16 z0], 80, .norm))], 1⟩ => some z0
  | _ => none
noncomputable def f94.E (K : Nat) : Entry := genE 1 f94.inA (f94.F K) f94.des
theorem f94.eq (K : Nat) (x : Int × Int × List Int) : f94.F K x = xrun (getA tys) (tabSp (f94.tab K)) Try.f94.ntmps 1 (f94.lp K) 400 f94.c ⟨initL 0 (f94.av x), f94.bl x, 1⟩ (contF (getA tys) 1 Try.f94.results.toList f94.inR) := by kernel_rfl
theorem f94.ok (K : Nat) : EntryOK Try.prog 94 (f94.E K) :=
  gen_ok mix tys_ok (f94.tabOK K) Try.func94 (by kernel_rfl : Try.f94.body = some f94.c) (by kernel_rfl) (f94.loops K) (av := f94.av) (bl := f94.bl) (out := f94.out) (fuel := 400)
    (by intro s x h; unfold f94.inA at h; split at h <;> simp at h; subst h; rfl) (fun _ => Nat.le_of_ble_eq_true rfl)
    (by intro s y h; unfold f94.inR at h; split at h <;> simp at h <;> subst h <;> rfl) (fun _ _ _ => rfl) (f94.eq K)
end Go.Proofs

namespace Go.Proofs
open Go.VM
/-! ### burrow/limbs.Add -/
noncomputable def f32.c : Code := bodyOf Try.f32
def f32.s0t (_K : Nat) (rec : Int × Int × List Int × List Int × List Int → Option (Int × List Int × List Int)) (t8 : Int) (t14 : Int) (b0 : List Int) (b1 : List Int) (b2 : List Int) : Option (Int × List Int × List Int) :=
  bif (decide (t14 < 8)) then
    bif decide (0 ≤ t14 ∧ t14 < 8) then
      bif decide (0 ≤ t14 ∧ t14 < 8) then
        let v9 := IntKind.wrap .u64 (t8 + (IntKind.wrap .u64 ((List.getD b1 (Int.toNat t14) 0) + (List.getD b2 (Int.toNat t14) 0))))
        bif decide (0 ≤ t14 ∧ t14 < 8) then
          rec ((Int.fdiv v9 (2 ^ 32)), (IntKind.wrap .i64 (t14 + 1)), b0, (setD b1 (Int.toNat t14) (bits .and .u64 v9 4294967295)), b2)
        else
          none
      else
        none
    else
      none
  else
    some (t8, b0, b1)
def f32.s0 (K : Nat) (rec : Int × Int × List Int × List Int × List Int → Option (Int × List Int × List Int)) (x : Int × Int × List Int × List Int × List Int) : Option (Int × List Int × List Int) := f32.s0t K rec x.1 x.2.1 x.2.2.1 x.2.2.2.1 x.2.2.2.2
noncomputable def f32.s0.b : Code := (findLoop 0 f32.c).getD .skip
def f32.s0.h : Hint := { lv := [4, 6, 7, 8, 14] }
def f32.s0.ho : Hint := { lv := [4, 6, 8] }
def f32.s0.shp (x : Int × Int × List Int × List Int × List Int) : VS := ⟨[(4, .ptr 0 0), (6, .ptr 1 0), (7, .ptr 2 0), (8, .int .u64 x.1), (14, .int .i64 x.2.1)], [(0, ([.ints .u64 4 x.2.2.1], 24, .norm)), (1, ([.ints .u64 8 x.2.2.2.1], 78, .norm)), (2, ([.ints .u64 8 x.2.2.2.2], 78, .norm))], 3⟩
def f32.s0.inX : VS → Option (Int × Int × List Int × List Int × List Int)
  | ⟨[(4, .ptr 0 0), (6, .ptr 1 0), (7, .ptr 2 0), (8, .int .u64 t8), (14, .int .i64 t14)], [(0, ([.ints .u64 4 b0], 24, .norm)), (1, ([.ints .u64 8 b1], 78, .norm)), (2, ([.ints .u64 8 b2], 78, .norm))], 3⟩ => some (t8, t14, b0, b1, b2)
  | _ => none
def f32.s0.o0 (y : Int × List Int × List Int) : VS := ⟨[(4, .ptr 0 0), (6, .ptr 1 0), (8, .int .u64 y.1)], [(0, ([.ints .u64 4 y.2.1], 24, .norm)), (1, ([.ints .u64 8 y.2.2], 78, .norm))], 2⟩
def f32.s0.des : ∀ α : Type, (Int × List Int × List Int) → (Ex → VS → Option α) → Option α := (des1 (.exit 0) f32.s0.o0)
def f32.s0.out : Int × List Int × List Int → Ex × VS := (fun y => (.exit 0, f32.s0.o0 y))
theorem f32.s0.desOK : ∀ α y (k : Ex → VS → Option α), f32.s0.des α y k = k (f32.s0.out y).1 (f32.s0.out y).2 := (fun _ _ _ => rfl)
def f32.s0.inY : Ex → VS → Option (Int × List Int × List Int)
  | .exit 0, ⟨[(4, .ptr 0 0), (6, .ptr 1 0), (8, .int .u64 t8)], [(0, ([.ints .u64 4 b0], 24, .norm)), (1, ([.ints .u64 8 b1], 78, .norm))], 2⟩ => some (t8, b0, b1)
  | _, _ => none
def f32.lp (K : Nat) : Nat → Option (Hint × Summ) := tabLp [(0, f32.s0.h, summOf (iter (f32.s0 K) K) f32.s0.inX f32.s0.des)]
noncomputable def f32.tab (K : Nat) : List (Nat × Entry) := [(92, (f92.E K)), (93, (f93.E K))]
theorem f32.tabOK (K : Nat) : SpecOK Try.prog (tabSp (f32.tab K)) := tab_ok ((tab_cons (f92.ok K) (tab_cons (f93.ok K) tab_nil)))
theorem f32.s0.eq (K : Nat) (rec : Int × Int × List Int × List Int × List Int → Option (Int × List Int × List Int)) (x : Int × Int × List Int × List Int × List Int) : f32.s0 K rec x = roundL (getA tys) (tabSp (f32.tab K)) 36 0 (f32.lp K) 400 f32.s0.b f32.s0.h f32.s0.ho f32.s0.shp f32.s0.inX f32.s0.inY rec x := by kernel_rfl
theorem f32.s0.lok (K : Nat) : LoopsOK Try.prog 36 0 (f32.lp K) f32.s0.b := loops_ok (by
  have h : loopsIn (f32.lp K) f32.s0.b = [] := by kernel_rfl
  rw [h]; simp)
theorem f32.s0.ok (K : Nat) : SummOK Try.prog 36 0 (summOf (iter (f32.s0 K) K) f32.s0.inX f32.s0.des) f32.s0.b :=
  loop_ok mix tys_ok (f32.tabOK K) (h := f32.s0.h) (ho := f32.s0.ho) (shp := f32.s0.shp) (inX := f32.s0.inX) (des := f32.s0.des) (out := f32.s0.out) (inY := f32.s0.inY) (fuel := 400)
    (by intro st x h; unfold f32.s0.inX at h; split at h <;> simp at h; subst h; rfl)
    (by intro e st y h; unfold f32.s0.inY at h; split at h <;> simp at h <;> subst h <;> rfl)
    f32.s0.desOK (f32.s0.lok K) (f32.s0 K) (f32.s0.eq K) K
theorem f32.loops (K : Nat) : LoopsOK Try.prog 36 0 (f32.lp K) f32.c := loops_ok (by
  have h : loopsIn (f32.lp K) f32.c = [(0, f32.s0.b)] := by kernel_rfl
  rw [h]
  intro p hp
  simp only [List.mem_cons, List.not_mem_nil, or_false] at hp
  rcases hp with rfl
  · exact ⟨_, rfl, (f32.s0.ok K)⟩)
def f32.T (K : Nat) (a0 : List Int) (a1 : List Int) : Option (List Int × Int) :=
  (f92.F K a0).bind fun y1 =>
  (f92.F K a1).bind fun y2 =>
  (iter (f32.s0 K) K (0, 0, [0, 0, 0, 0], y1, y2)).bind fun y15 =>
  (f93.F K y15.2.2).bind fun y16 =>
  some (y16, y15.1)
def f32.F (K : Nat) (x : List Int × List Int) : Option (List Int × Int) := f32.T K x.1 x.2
def f32.av (x : List Int × List Int) : List VV := [.agg [.ints .u64 4 x.1], .agg [.ints .u64 4 x.2]]
def f32.bl (_x : List Int × List Int) : List (Nat × Blk) := []
def f32.inA : VS → Option (List Int × List Int)
  | ⟨[(0, .agg [.ints .u64 4 a0]), (1, .agg [.ints .u64 4 a1])], [], 0⟩ => some (a0, a1)
  | _ => none
def f32.o0 (y : List Int × Int) : VS := ⟨[(0, .tup [.agg [.ints .u64 4 y.1], .int .u64 y.2])], [], 0⟩
def f32.des : ∀ α : Type, (List Int × Int) → (VS → Option α) → Option α := (dv1 f32.o0)
def f32.out : List Int × Int → VS := f32.o0
def f32.inR : VS → Option (List Int × Int)
  | ⟨[(0, .tup [.agg [.ints .u64 4 y_0], .int .u64 y_1])], [], 0⟩ => some (y_0, y_1)
  | _ => none
noncomputable def f32.E (K : Nat) : Entry := genE 0 f32.inA (f32.F K) f32.des
theorem f32.eq (K : Nat) (x : List Int × List Int) : f32.F K x = xrun (getA tys) (tabSp (f32.tab K)) Try.f32.ntmps 0 (f32.lp K) 400 f32.c ⟨initL 0 (f32.av x), f32.bl x, 0⟩ (contF (getA tys) 0 Try.f32.results.toList f32.inR) := by kernel_rfl
theorem f32.ok (K : Nat) : EntryOK Try.prog 32 (f32.E K) :=
  gen_ok mix tys_ok (f32.tabOK K) Try.func32 (by kernel_rfl : Try.f32.body = some f32.c) (by kernel_rfl) (f32.loops K) (av := f32.av) (bl := f32.bl) (out := f32.out) (fuel := 400)
    (by intro s x h; unfold f32.inA at h; split at h <;> simp at h; subst h; rfl) (fun _ => Nat.le_of_ble_eq_true rfl)
    (by intro s y h; unfold f32.inR at h; split at h <;> simp at h <;> subst h <;> rfl) (fun _ _ _ => rfl) (f32.eq K)
end Go.Proofs

namespace Go.Proofs
open Go.VM
/-! ### burrow/burrowref02.Add -/
noncomputable def f33.c : Code := bodyOf Try.f33
def f33.s0t (_K : Nat) (rec : Int × Int × List Int × List Int × List Int → Option (Int × List Int × List Int)) (t6 : Int) (t7 : Int) (b0 : List Int) (b1 : List Int) (b2 : List Int) : Option (Int × List Int × List Int) :=
  bif (decide (t7 < 4)) then
    bif decide (0 ≤ t7 ∧ t7 < 4) then
      bif decide (0 ≤ t7 ∧ t7 < 4) then
        let v6 := IntKind.wrap .u64 ((List.getD b0 (Int.toNat t7) 0) + (List.getD b1 (Int.toNat t7) 0))
        let v7 := IntKind.wrap .u64 (v6 + t6)
        bif decide (0 ≤ t7 ∧ t7 < 4) then
          bif (decide (v6 < (List.getD b1 (Int.toNat t7) 0))) then
            bif decide (0 ≤ t7 ∧ t7 < 4) then
              rec (1, (IntKind.wrap .i64 (t7 + 1)), (setD b0 (Int.toNat t7) v7), b1, b2)
            else
              none
          else
            bif (decide (v7 < t6)) then
              bif decide (0 ≤ t7 ∧ t7 < 4) then
                rec (1, (IntKind.wrap .i64 (t7 + 1)), (setD b0 (Int.toNat t7) v7), b1, b2)
              else
                none
            else
              bif decide (0 ≤ t7 ∧ t7 < 4) then
                rec (0, (IntKind.wrap .i64 (t7 + 1)), (setD b0 (Int.toNat t7) v7), b1, b2)
              else
                none
        else
          none
      else
        none
    else
      none
  else
    some (t6, b0, b2)
def f33.s0 (K : Nat) (rec : Int × Int × List Int × List Int × List Int → Option (Int × List Int × List Int)) (x : Int × Int × List Int × List Int × List Int) : Option (Int × List Int × List Int) := f33.s0t K rec x.1 x.2.1 x.2.2.1 x.2.2.2.1 x.2.2.2.2
noncomputable def f33.s0.b : Code := (findLoop 0 f33.c).getD .skip
def f33.s0.h : Hint := { lv := [2, 3, 4, 6, 7] }
def f33.s0.ho : Hint := { lv := [2, 4, 6] }
def f33.s0.shp (x : Int × Int × List Int × List Int × List Int) : VS := ⟨[(2, .ptr 0 0), (3, .ptr 1 0), (4, .ptr 2 0), (6, .int .u64 x.1), (7, .int .i64 x.2.1)], [(0, ([.ints .u64 4 x.2.2.1], 24, .norm)), (1, ([.ints .u64 4 x.2.2.2.1], 24, .norm)), (2, ([.ints .u64 4 x.2.2.2.2], 24, .norm))], 3⟩
def f33.s0.inX : VS → Option (Int × Int × List Int × List Int × List Int)
  | ⟨[(2, .ptr 0 0), (3, .ptr 1 0), (4, .ptr 2 0), (6, .int .u64 t6), (7, .int .i64 t7)], [(0, ([.ints .u64 4 b0], 24, .norm)), (1, ([.ints .u64 4 b1], 24, .norm)), (2, ([.ints .u64 4 b2], 24, .norm))], 3⟩ => some (t6, t7, b0, b1, b2)
  | _ => none
def f33.s0.o0 (y : Int × List Int × List Int) : VS := ⟨[(2, .ptr 0 0), (4, .ptr 1 0), (6, .int .u64 y.1)], [(0, ([.ints .u64 4 y.2.1], 24, .norm)), (1, ([.ints .u64 4 y.2.2], 24, .norm))], 2⟩
def f33.s0.des : ∀ α : Type, (Int × List Int × List Int) → (Ex → VS → Option α) → Option α := (des1 (.exit 0) f33.s0.o0)
def f33.s0.out : Int × List Int × List Int → Ex × VS := (fun y => (.exit 0, f33.s0.o0 y))
theorem f33.s0.desOK : ∀ α y (k : Ex → VS → Option α), f33.s0.des α y k = k (f33.s0.out y).1 (f33.s0.out y).2 := (fun _ _ _ => rfl)
def f33.s0.inY : Ex → VS → Option (Int × List Int × List Int)
  | .exit 0, ⟨[(2, .ptr 0 0), (4, .ptr 1 0), (6, .int .u64 t6)], [(0, ([.ints .u64 4 b0], 24, .norm)), (1, ([.ints .u64 4 b1], 24, .norm))], 2⟩ => some (t6, b0, b1)
  | _, _ => none
def f33.lp (K : Nat) : Nat → Option (Hint × Summ) := tabLp [(0, f33.s0.h, summOf (iter (f33.s0 K) K) f33.s0.inX f33.s0.des)]
noncomputable def f33.tab (_K : Nat) : List (Nat × Entry) := []
theorem f33.tabOK (K : Nat) : SpecOK Try.prog (tabSp (f33.tab K)) := tab_ok ( tab_nil)
theorem f33.s0.eq (K : Nat) (rec : Int × Int × List Int × List Int × List Int → Option (Int × List Int × List Int)) (x : Int × Int × List Int × List Int × List Int) : f33.s0 K rec x = roundL (getA tys) (tabSp (f33.tab K)) 39 0 (f33.lp K) 400 f33.s0.b f33.s0.h f33.s0.ho f33.s0.shp f33.s0.inX f33.s0.inY rec x := by kernel_rfl
theorem f33.s0.lok (K : Nat) : LoopsOK Try.prog 39 0 (f33.lp K) f33.s0.b := loops_ok (by
  have h : loopsIn (f33.lp K) f33.s0.b = [] := by kernel_rfl
  rw [h]; simp)
theorem f33.s0.ok (K : Nat) : SummOK Try.prog 39 0 (summOf (iter (f33.s0 K) K) f33.s0.inX f33.s0.des) f33.s0.b :=
  loop_ok mix tys_ok (f33.tabOK K) (h := f33.s0.h) (ho := f33.s0.ho) (shp := f33.s0.shp) (inX := f33.s0.inX) (des := f33.s0.des) (out := f33.s0.out) (inY := f33.s0.inY) (fuel := 400)
    (by intro st x h; unfold f33.s0.inX at h; split at h <;> simp at h; subst h; rfl)
    (by intro e st y h; unfold f33.s0.inY at h; split at h <;> simp at h <;> subst h <;> rfl)
    f33.s0.desOK (f33.s0.lok K) (f33.s0 K) (f33.s0.eq K) K
theorem f33.loops (K : Nat) : LoopsOK Try.prog 39 0 (f33.lp K) f33.c := loops_ok (by
  have h : loopsIn (f33.lp K) f33.c = [(0, f33.s0.b)] := by kernel_rfl
  rw [h]
  intro p hp
  simp only [List.mem_cons, List.not_mem_nil, or_false] at hp
  rcases hp with rfl
  · exact ⟨_, rfl, (f33.s0.ok K)⟩)
def f33.T (K : Nat) (a0 : List Int) (a1 : List Int) : Option (List Int × Int) :=
  (iter (f33.s0 K) K (0, 0, a0, a1, [0, 0, 0, 0])).bind fun y21 =>
  some (y21.2.1, y21.1)
def f33.F (K : Nat) (x : List Int × List Int) : Option (List Int × Int) := f33.T K x.1 x.2
def f33.av (x : List Int × List Int) : List VV := [.agg [.ints .u64 4 x.1], .agg [.ints .u64 4 x.2]]
def f33.bl (_x : List Int × List Int) : List (Nat × Blk) := []
def f33.inA : VS → Option (List Int × List Int)
  | ⟨[(0, .agg [.ints .u64 4 a0]), (1, .agg [.ints .u64 4 a1])], [], 0⟩ => some (a0, a1)
  | _ => none
def f33.o0 (y : List Int × Int) : VS := ⟨[(0, .tup [.agg [.ints .u64 4 y.1], .int .u64 y.2])], [], 0⟩
def f33.des : ∀ α : Type, (List Int × Int) → (VS → Option α) → Option α := (dv1 f33.o0)
def f33.out : List Int × Int → VS := f33.o0
def f33.inR : VS → Option (List Int × Int)
  | ⟨[(0, .tup [.agg [.ints .u64 4 y_0], .int .u64 y_1])], [], 0⟩ => some (y_0, y_1)
  | _ => none
noncomputable def f33.E (K : Nat) : Entry := genE 0 f33.inA (f33.F K) f33.des
theorem f33.eq (K : Nat) (x : List Int × List Int) : f33.F K x = xrun (getA tys) (tabSp (f33.tab K)) Try.f33.ntmps 0 (f33.lp K) 400 f33.c ⟨initL 0 (f33.av x), f33.bl x, 0⟩ (contF (getA tys) 0 Try.f33.results.toList f33.inR) := by kernel_rfl
theorem f33.ok (K : Nat) : EntryOK Try.prog 33 (f33.E K) :=
  gen_ok mix tys_ok (f33.tabOK K) Try.func33 (by kernel_rfl : Try.f33.body = some f33.c) (by kernel_rfl) (f33.loops K) (av := f33.av) (bl := f33.bl) (out := f33.out) (fuel := 400)
    (by intro s x h; unfold f33.inA at h; split at h <;> simp at h; subst h; rfl) (fun _ => Nat.le_of_ble_eq_true rfl)
    (by intro s y h; unfold f33.inR at h; split at h <;> simp at h <;> subst h <;> rfl) (fun _ _ _ => rfl) (f33.eq K)
end Go.Proofs

namespace Go.Proofs
open Go.VM
/-! ### burrow/limbs.Sub -/
noncomputable def f34.c : Code := bodyOf Try.f34
def f34.s0t (_K : Nat) (rec : Int × Int × List Int × List Int × List Int → Option (Int × List Int × List Int)) (t8 : Int) (t14 : Int) (b0 : List Int) (b1 : List Int) (b2 : List Int) : Option (Int × List Int × List Int) :=
  bif (decide (t14 < 8)) then
    bif decide (0 ≤ t14 ∧ t14 < 8) then
      bif decide (0 ≤ t14 ∧ t14 < 8) then
        let v10 := IntKind.wrap .u64 (t8 + (IntKind.wrap .u64 ((List.getD b1 (Int.toNat t14) 0) + (IntKind.wrap .u64 (4294967295 - (List.getD b2 (Int.toNat t14) 0))))))
        bif decide (0 ≤ t14 ∧ t14 < 8) then
          rec ((Int.fdiv v10 (2 ^ 32)), (IntKind.wrap .i64 (t14 + 1)), b0, (setD b1 (Int.toNat t14) (bits .and .u64 v10 4294967295)), b2)
        else
          none
      else
        none
    else
      none
  else
    some (t8, b0, b1)
def f34.s0 (K : Nat) (rec : Int × Int × List Int × List Int × List Int → Option (Int × List Int × List Int)) (x : Int × Int × List Int × List Int × List Int) : Option (Int × List Int × List Int) := f34.s0t K rec x.1 x.2.1 x.2.2.1 x.2.2.2.1 x.2.2.2.2
noncomputable def f34.s0.b : Code := (findLoop 0 f34.c).getD .skip
def f34.s0.h : Hint := { lv := [4, 6, 7, 8, 14] }
def f34.s0.ho : Hint := { lv := [4, 6, 8] }
def f34.s0.shp (x : Int × Int × List Int × List Int × List Int) : VS := ⟨[(4, .ptr 0 0), (6, .ptr 1 0), (7, .ptr 2 0), (8, .int .u64 x.1), (14, .int .i64 x.2.1)], [(0, ([.ints .u64 4 x.2.2.1], 24, .norm)), (1, ([.ints .u64 8 x.2.2.2.1], 78, .norm)), (2, ([.ints .u64 8 x.2.2.2.2], 78, .norm))], 3⟩
def f34.s0.inX : VS → Option (Int × Int × List Int × List Int × List Int)
  | ⟨[(4, .ptr 0 0), (6, .ptr 1 0), (7, .ptr 2 0), (8, .int .u64 t8), (14, .int .i64 t14)], [(0, ([.ints .u64 4 b0], 24, .norm)), (1, ([.ints .u64 8 b1], 78, .norm)), (2, ([.ints .u64 8 b2], 78, .norm))], 3⟩ => some (t8, t14, b0, b1, b2)
  | _ => none
def f34.s0.o0 (y : Int × List Int × List Int) : VS := ⟨[(4, .ptr 0 0), (6, .ptr 1 0), (8, .int .u64 y.1)], [(0, ([.ints .u64 4 y.2.1], 24, .norm)), (1, ([.ints .u64 8 y.2.2], 78, .norm))], 2⟩
def f34.s0.des : ∀ α : Type, (Int × List Int × List Int) → (Ex → VS → Option α) → Option α := (des1 (.exit 0) f34.s0.o0)
def f34.s0.out : Int × List Int × List Int → Ex × VS := (fun y => (.exit 0, f34.s0.o0 y))
theorem f34.s0.desOK : ∀ α y (k : Ex → VS → Option α), f34.s0.des α y k = k (f34.s0.out y).1 (f34.s0.out y).2 := (fun _ _ _ => rfl)
def f34.s0.inY : Ex → VS → Option (Int × List Int × List Int)
  | .exit 0, ⟨[(4, .ptr 0 0), (6, .ptr 1 0), (8, .int .u64 t8)], [(0, ([.ints .u64 4 b0], 24, .norm)), (1, ([.ints .u64 8 b1], 78, .norm))], 2⟩ => some (t8, b0, b1)
  | _, _ => none
def f34.lp (K : Nat) : Nat → Option (Hint × Summ) := tabLp [(0, f34.s0.h, summOf (iter (f34.s0 K) K) f34.s0.inX f34.s0.des)]
noncomputable def f34.tab (K : Nat) : List (Nat × Entry) := [(92, (f92.E K)), (93, (f93.E K))]
theorem f34.tabOK (K : Nat) : SpecOK Try.prog (tabSp (f34.tab K)) := tab_ok ((tab_cons (f92.ok K) (tab_cons (f93.ok K) tab_nil)))
theorem f34.s0.eq (K : Nat) (rec : Int × Int × List Int × List Int × List Int → Option (Int × List Int × List Int)) (x : Int × Int × List Int × List Int × List Int) : f34.s0 K rec x = roundL (getA tys) (tabSp (f34.tab K)) 38 0 (f34.lp K) 400 f34.s0.b f34.s0.h f34.s0.ho f34.s0.shp f34.s0.inX f34.s0.inY rec x := by kernel_rfl
theorem f34.s0.lok (K : Nat) : LoopsOK Try.prog 38 0 (f34.lp K) f34.s0.b := loops_ok (by
  have h : loopsIn (f34.lp K) f34.s0.b = [] := by kernel_rfl
  rw [h]; simp)
theorem f34.s0.ok (K : Nat) : SummOK Try.prog 38 0 (summOf (iter (f34.s0 K) K) f34.s0.inX f34.s0.des) f34.s0.b :=
  loop_ok mix tys_ok (f34.tabOK K) (h := f34.s0.h) (ho := f34.s0.ho) (shp := f34.s0.shp) (inX := f34.s0.inX) (des := f34.s0.des) (out := f34.s0.out) (inY := f34.s0.inY) (fuel := 400)
    (by intro st x h; unfold f34.s0.inX at h; split at h <;> simp at h; subst h; rfl)
    (by intro e st y h; unfold f34.s0.inY at h; split at h <;> simp at h <;> subst h <;> rfl)
    f34.s0.desOK (f34.s0.lok K) (f34.s0 K) (f34.s0.eq K) K
theorem f34.loops (K : Nat) : LoopsOK Try.prog 38 0 (f34.lp K) f34.c := loops_ok (by
  have h : loopsIn (f34.lp K) f34.c = [(0, f34.s0.b)] := by kernel_rfl
  rw [h]
  intro p hp
  simp only [List.mem_cons, List.not_mem_nil, or_false] at hp
  rcases hp with rfl
  · exact ⟨_, rfl, (f34.s0.ok K)⟩)
def f34.T (K : Nat) (a0 : List Int) (a1 : List Int) : Option (List Int × Int) :=
  (f92.F K a0).bind fun y1 =>
  (f92.F K a1).bind fun y2 =>
  (iter (f34.s0 K) K (1, 0, [0, 0, 0, 0], y1, y2)).bind fun y16 =>
  (f93.F K y16.2.2).bind fun y17 =>
  some (y17, (IntKind.wrap .u64 (1 - y16.1)))
def f34.F (K : Nat) (x : List Int × List Int) : Option (List Int × Int) := f34.T K x.1 x.2
def f34.av (x : List Int × List Int) : List VV := [.agg [.ints .u64 4 x.1], .agg [.ints .u64 4 x.2]]
def f34.bl (_x : List Int × List Int) : List (Nat × Blk) := []
def f34.inA : VS → Option (List Int × List Int)
  | ⟨[(0, .agg [.ints .u64 4 a0]), (1, .agg [.ints .u64 4 a1])], [], 0⟩ => some (a0, a1)
  | _ => none
def f34.o0 (y : List Int × Int) : VS := ⟨[(0, .tup [.agg [.ints .u64 4 y.1], .int .u64 y.2])], [], 0⟩
def f34.des : ∀ α : Type, (List Int × Int) → (VS → Option α) → Option α := (dv1 f34.o0)
def f34.out : List Int × Int → VS := f34.o0
def f34.inR : VS → Option (List Int × Int)
  | ⟨[(0, .tup [.agg [.ints .u64 4 y_0], .int .u64 y_1])], [], 0⟩ => some (y_0, y_1)
  | _ => none
noncomputable def f34.E (K : Nat) : Entry := genE 0 f34.inA (f34.F K) f34.des
theorem f34.eq (K : Nat) (x : List Int × List Int) : f34.F K x = xrun (getA tys) (tabSp (f34.tab K)) Try.f34.ntmps 0 (f34.lp K) 400 f34.c ⟨initL 0 (f34.av x), f34.bl x, 0⟩ (contF (getA tys) 0 Try.f34.results.toList f34.inR) := by kernel_rfl
theorem f34.ok (K : Nat) : EntryOK Try.prog 34 (f34.E K) :=
  gen_ok mix tys_ok (f34.tabOK K) Try.func34 (by kernel_rfl : Try.f34.body = some f34.c) (by kernel_rfl) (f34.loops K) (av := f34.av) (bl := f34.bl) (out := f34.out) (fuel := 400)
    (by intro s x h; unfold f34.inA at h; split at h <;> simp at h; subst h; rfl) (fun _ => Nat.le_of_ble_eq_true rfl)
    (by intro s y h; unfold f34.inR at h; split at h <;> simp at h <;> subst h <;> rfl) (fun _ _ _ => rfl) (f34.eq K)
end Go.Proofs

namespace Go.Proofs
open Go.VM
/-! ### burrow/burrowref02.Sub -/
noncomputable def f35.c : Code := bodyOf Try.f35
def f35.s0t (_K : Nat) (rec : Int × Int × List Int × List Int × List Int → Option (Int × List Int × List Int)) (t6 : Int) (t7 : Int) (b0 : List Int) (b1 : List Int) (b2 : List Int) : Option (Int × List Int × List Int) :=
  bif (decide (t7 < 4)) then
    bif decide (0 ≤ t7 ∧ t7 < 4) then
      bif decide (0 ≤ t7 ∧ t7 < 4) then
        let v6 := IntKind.wrap .u64 ((List.getD b0 (Int.toNat t7) 0) - (List.getD b1 (Int.toNat t7) 0))
        let v7 := IntKind.wrap .u64 (v6 - t6)
        bif decide (0 ≤ t7 ∧ t7 < 4) then
          bif decide (0 ≤ t7 ∧ t7 < 4) then
            bif (decide ((List.getD b0 (Int.toNat t7) 0) < (List.getD b1 (Int.toNat t7) 0))) then
              bif decide (0 ≤ t7 ∧ t7 < 4) then
                rec (1, (IntKind.wrap .i64 (t7 + 1)), (setD b0 (Int.toNat t7) v7), b1, b2)
              else
                none
            else
              bif (decide (v6 < t6)) then
                bif decide (0 ≤ t7 ∧ t7 < 4) then
                  rec (1, (IntKind.wrap .i64 (t7 + 1)), (setD b0 (Int.toNat t7) v7), b1, b2)
                else
                  none
              else
                bif decide (0 ≤ t7 ∧ t7 < 4) then
                  rec (0, (IntKind.wrap .i64 (t7 + 1)), (setD b0 (Int.toNat t7) v7), b1, b2)
                else
                  none
          else
            none
        else
          none
      else
        none
    else
      none
  else
    some (t6, b0, b2)
def f35.s0 (K : Nat) (rec : Int × Int × List Int × List Int × List Int → Option (Int × List Int × List Int)) (x : Int × Int × List Int × List Int × List Int) : Option (Int × List Int × List Int) := f35.s0t K rec x.1 x.2.1 x.2.2.1 x.2.2.2.1 x.2.2.2.2
noncomputable def f35.s0.b : Code := (findLoop 0 f35.c).getD .skip
def f35.s0.h : Hint := { lv := [2, 3, 4, 6, 7] }
def f35.s0.ho : Hint := { lv := [2, 4, 6] }
def f35.s0.shp (x : Int × Int × List Int × List Int × List Int) : VS := ⟨[(2, .ptr 0 0), (3, .ptr 1 0), (4, .ptr 2 0), (6, .int .u64 x.1), (7, .int .i64 x.2.1)], [(0, ([.ints .u64 4 x.2.2.1], 24, .norm)), (1, ([.ints .u64 4 x.2.2.2.1], 24, .norm)), (2, ([.ints .u64 4 x.2.2.2.2], 24, .norm))], 3⟩
def f35.s0.inX : VS → Option (Int × Int × List Int × List Int × List Int)
  | ⟨[(2, .ptr 0 0), (3, .ptr 1 0), (4, .ptr 2 0), (6, .int .u64 t6), (7, .int .i64 t7)], [(0, ([.ints .u64 4 b0], 24, .norm)), (1, ([.ints .u64 4 b1], 24, .norm)), (2, ([.ints .u64 4 b2], 24, .norm))], 3⟩ => some (t6, t7, b0, b1, b2)
  | _ => none
def f35.s0.o0 (y : Int × List Int × List Int) : VS := ⟨[(2, .ptr 0 0), (4, .ptr 1 0), (6, .int .u64 y.1)], [(0, ([.ints .u64 4 y.2.1], 24, .norm)), (1, ([.ints .u64 4 y.2.2], 24, .norm))], 2⟩
def f35.s0.des : ∀ α : Type, (Int × List Int × List Int) → (Ex → VS → Option α) → Option α := (des1 (.exit 0) f35.s0.o0)
def f35.s0.out : Int × List Int × List Int → Ex × VS := (fun y => (.exit 0, f35.s0.o0 y))
theorem f35.s0.desOK : ∀ α y (k : Ex → VS → Option α), f35.s0.des α y k = k (f35.s0.out y).1 (f35.s0.out y).2 := (fun _ _ _ => rfl)
def f35.s0.inY : Ex → VS → Option (Int × List Int × List Int)
  | .exit 0, ⟨[(2, .ptr 0 0), (4, .ptr 1 0), (6, .int .u64 t6)], [(0, ([.ints .u64 4 b0], 24, .norm)), (1, ([.ints .u64 4 b1], 24, .norm))], 2⟩ => some (t6, b0, b1)
  | _, _ => none
def f35.lp (K : Nat) : Nat → Option (Hint × Summ) := tabLp [(0, f35.s0.h, summOf (iter (f35.s0 K) K) f35.s0.inX f35.s0.des)]
noncomputable def f35.tab (_K : Nat) : List (Nat × Entry) := []
theorem f35.tabOK (K : Nat) : SpecOK Try.prog (tabSp (f35.tab K)) := tab_ok ( tab_nil)
theorem f35.s0.eq (K : Nat) (rec : Int × Int × List Int × List Int × List Int → Option (Int × List Int × List Int)) (x : Int × Int × List Int × List Int × List Int) : f35.s0 K rec x = roundL (getA tys) (tabSp (f35.tab K)) 41 0 (f35.lp K) 400 f35.s0.b f35.s0.h f35.s0.ho f35.s0.shp f35.s0.inX f35.s0.inY rec x := by kernel_rfl
theorem f35.s0.lok (K : Nat) : LoopsOK Try.prog 41 0 (f35.lp K) f35.s0.b := loops_ok (by
  have h : loopsIn (f35.lp K) f35.s0.b = [] := by kernel_rfl
  rw [h]; simp)
theorem f35.s0.ok (K : Nat) : SummOK Try.prog 41 0 (summOf (iter (f35.s0 K) K) f35.s0.inX f35.s0.des) f35.s0.b :=
  loop_ok mix tys_ok (f35.tabOK K) (h := f35.s0.h) (ho := f35.s0.ho) (shp := f35.s0.shp) (inX := f35.s0.inX) (des := f35.s0.des) (out := f35.s0.out) (inY := f35.s0.inY) (fuel := 400)
    (by intro st x h; unfold f35.s0.inX at h; split at h <;> simp at h; subst h; rfl)
    (by intro e st y h; unfold f35.s0.inY at h; split at h <;> simp at h <;> subst h <;> rfl)
    f35.s0.desOK (f35.s0.lok K) (f35.s0 K) (f35.s0.eq K) K
theorem f35.loops (K : Nat) : LoopsOK Try.prog 41 0 (f35.lp K) f35.c := loops_ok (by
  have h : loopsIn (f35.lp K) f35.c = [(0, f35.s0.b)] := by kernel_rfl
  rw [h]
  intro p hp
  simp only [List.mem_cons, List.not_mem_nil, or_false] at hp
  rcases hp with rfl
  · exact ⟨_, rfl, (f35.s0.ok K)⟩)
def f35.T (K : Nat) (a0 : List Int) (a1 : List Int) : Option (List Int × Int) :=
  (iter (f35.s0 K) K (0, 0, a0, a1, [0, 0, 0, 0])).bind fun y23 =>
  some (y23.2.1, y23.1)
def f35.F (K : Nat) (x : List Int × List Int) : Option (List Int × Int) := f35.T K x.1 x.2
def f35.av (x : List Int × List Int) : List VV := [.agg [.ints .u64 4 x.1], .agg [.ints .u64 4 x.2]]
def f35.bl (_x : List Int × List Int) : List (Nat × Blk) := []
def f35.inA : VS → Option (List Int × List Int)
  | ⟨[(0, .agg [.ints .u64 4 a0]), (1, .agg [.ints .u64 4 a1])], [], 0⟩ => some (a0, a1)
  | _ => none
def f35.o0 (y : List Int × Int) : VS := ⟨[(0, .tup [.agg [.ints .u64 4 y.1], .int .u64 y.2])], [], 0⟩
def f35.des : ∀ α : Type, (List Int × Int) → (VS → Option α) → Option α := (dv1 f35.o0)
def f35.out : List Int × Int → VS := f35.o0
def f35.inR : VS → Option (List Int × Int)
  | ⟨[(0, .tup [.agg [.ints .u64 4 y_0], .int .u64 y_1])], [], 0⟩ => some (y_0, y_1)
  | _ => none
noncomputable def f35.E (K : Nat) : Entry := genE 0 f35.inA (f35.F K) f35.des
theorem f35.eq (K : Nat) (x : List Int × List Int) : f35.F K x = xrun (getA tys) (tabSp (f35.tab K)) Try.f35.ntmps 0 (f35.lp K) 400 f35.c ⟨initL 0 (f35.av x), f35.bl x, 0⟩ (contF (getA tys) 0 Try.f35.results.toList f35.inR) := by kernel_rfl
theorem f35.ok (K : Nat) : EntryOK Try.prog 35 (f35.E K) :=
  gen_ok mix tys_ok (f35.tabOK K) Try.func35 (by kernel_rfl : Try.f35.body = some f35.c) (by kernel_rfl) (f35.loops K) (av := f35.av) (bl := f35.bl) (out := f35.out) (fuel := 400)
    (by intro s x h; unfold f35.inA at h; split at h <;> simp at h; subst h; rfl) (fun _ => Nat.le_of_ble_eq_true rfl)
    (by intro s y h; unfold f35.inR at h; split at h <;> simp at h <;> subst h <;> rfl) (fun _ _ _ => rfl) (f35.eq K)
end Go.Proofs

namespace Go.Proofs
open Go.VM
/-! ### burrow/limbs.Mul -/
noncomputable def f36.c : Code := bodyOf Try.f36
def f36.s2t (K : Nat) (rec : Int × Int × Int × List Int × List Int × List Int × List Int × List Int → Option (Int × List Int × List Int × List Int × List Int × List Int)) (t10 : Int) (t17 : Int) (t20 : Int) (b0 : List Int) (b1 : List Int) (b2 : List Int) (b3 : List Int) (b4 : List Int) : Option (Int × List Int × List Int × List Int × List Int × List Int) :=
  bif (decide (t20 < 8)) then
    bif decide (0 ≤ t10 ∧ t10 < 8) then
      bif decide (0 ≤ t20 ∧ t20 < 8) then
        (f94.F K ((IntKind.wrap .i64 (t10 + t20)), (IntKind.wrap .u64 ((List.getD b2 (Int.toNat t10) 0) * (List.getD b3 (Int.toNat t20) 0))), b4)).bind fun y11 =>
        rec (t10, t17, (IntKind.wrap .i64 (t20 + 1)), b0, b1, b2, b3, y11)
      else
        none
    else
      none
  else
    some (t17, b0, b1, b2, b3, b4)
def f36.s2 (K : Nat) (rec : Int × Int × Int × List Int × List Int × List Int × List Int × List Int → Option (Int × List Int × List Int × List Int × List Int × List Int)) (x : Int × Int × Int × List Int × List Int × List Int × List Int × List Int) : Option (Int × List Int × List Int × List Int × List Int × List Int) := f36.s2t K rec x.1 x.2.1 x.2.2.1 x.2.2.2.1 x.2.2.2.2.1 x.2.2.2.2.2.1 x.2.2.2.2.2.2.1 x.2.2.2.2.2.2.2
noncomputable def f36.s2.b : Code := (findLoop 2 f36.c).getD .skip
def f36.s2.h : Hint := { lv := [4, 5, 6, 7, 8, 9, 10, 17, 20] }
def f36.s2.ho : Hint := { lv := [4, 5, 6, 7, 8, 9, 17] }
def f36.s2.shp (x : Int × Int × Int × List Int × List Int × List Int × List Int × List Int) : VS := ⟨[(4, .ptr 0 0), (5, .ptr 1 0), (6, .ptr 2 0), (7, .ptr 3 0), (8, .ptr 4 0), (9, .fn 94 [.ptr 4 0]), (10, .int .i64 x.1), (17, .int .i64 x.2.1), (20, .int .i64 x.2.2.1)], [(0, ([.ints .u64 4 x.2.2.2.1], 24, .norm)), (1, ([.ints .u64 4 x.2.2.2.2.1], 24, .norm)), (2, ([.ints .u64 8 x.2.2.2.2.2.1], 78, .norm)), (3, ([.ints .u64 8 x.2.2.2.2.2.2.1], 78, .norm)), (4, ([.ints .u64 16 x.2.2.2.2.2.2.2], 80, .norm))], 5⟩
def f36.s2.inX : VS → Option (Int × Int × Int × List Int × List Int × List Int × List Int × List Int)
  | ⟨[(4, .ptr 0 0), (5, .ptr 1 0), (6, .ptr 2 0), (7, .ptr 3 0), (8, .ptr 4 0), (9, .fn 94 [.ptr 4 0]), (10, .int .i64 t10), (17, .int .i64 t17), (20, .int .i64 t20)], [(0, ([.ints .u64 4 b0], 24, .norm)), (1, ([.ints .u64 4 b1], 24, .norm)), (2, ([.ints .u64 8 b2], 78, .norm)), (3, ([.ints .u64 8 b3], 78, .norm)), (4, ([.ints .u64 16 b4], 80, .norm))], 5⟩ => some (t10, t17, t20, b0, b1, b2, b3, b4)
  | _ => none
def f36.s2.o0 (y : Int × List Int × List Int × List Int × List Int × List Int) : VS := ⟨[(4, .ptr 0 0), (5, .ptr 1 0), (6, .ptr 2 0), (7, .ptr 3 0), (8, .ptr 4 0), (9, .fn 94 [.ptr 4 0]), (17, .int .i64 y.1)], [(0, ([.ints .u64 4 y.2.1], 24, .norm)), (1, ([.ints .u64 4 y.2.2.1], 24, .norm)), (2, ([.ints .u64 8 y.2.2.2.1], 78, .norm)), (3, ([.ints .u64 8 y.2.2.2.2.1], 78, .norm)), (4, ([.ints .u64 16 y.2.2.2.2.2], 80, .norm))], 5⟩
def f36.s2.des : ∀ α : Type, (Int × List Int × List Int × List Int × List Int × List Int) → (Ex → VS → Option α) → Option α := (des1 (.exit 2) f36.s2.o0)
def f36.s2.out : Int × List Int × List Int × List Int × List Int × List Int → Ex × VS := (fun y => (.exit 2, f36.s2.o0 y))
theorem f36.s2.desOK : ∀ α y (k : Ex → VS → Option α), f36.s2.des α y k = k (f36.s2.out y).1 (f36.s2.out y).2 := (fun _ _ _ => rfl)
def f36.s2.inY : Ex → VS → Option (Int × List Int × List Int × List Int × List Int × List Int)
  | .exit 2, ⟨[(4, .ptr 0 0), (5, .ptr 1 0), (6, .ptr 2 0), (7, .ptr 3 0), (8, .ptr 4 0), (9, .fn 94 [.ptr 4 0]), (17, .int .i64 t17)], [(0, ([.ints .u64 4 b0], 24, .norm)), (1, ([.ints .u64 4 b1], 24, .norm)), (2, ([.ints .u64 8 b2], 78, .norm)), (3, ([.ints .u64 8 b3], 78, .norm)), (4, ([.ints .u64 16 b4], 80, .norm))], 5⟩ => some (t17, b0, b1, b2, b3, b4)
  | _, _ => none
def f36.s0t (K : Nat) (rec : Int × List Int × List Int × List Int × List Int × List Int → Option (List Int × List Int × List Int)) (t17 : Int) (b0 : List Int) (b1 : List Int) (b2 : List Int) (b3 : List Int) (b4 : List Int) : Option (List Int × List Int × List Int) :=
  bif (decide (t17 < 8)) then
    (iter (f36.s2 K) K (t17, t17, 0, b0, b1, b2, b3, b4)).bind fun y13 =>
    rec ((IntKind.wrap .i64 (y13.1 + 1)), y13.2.1, y13.2.2.1, y13.2.2.2.1, y13.2.2.2.2.1, y13.2.2.2.2.2)
  else
    some (b0, b1, b4)
def f36.s0 (K : Nat) (rec : Int × List Int × List Int × List Int × List Int × List Int → Option (List Int × List Int × List Int)) (x : Int × List Int × List Int × List Int × List Int × List Int) : Option (List Int × List Int × List Int) := f36.s0t K rec x.1 x.2.1 x.2.2.1 x.2.2.2.1 x.2.2.2.2.1 x.2.2.2.2.2
noncomputable def f36.s0.b : Code := (findLoop 0 f36.c).getD .skip
def f36.s0.h : Hint := { lv := [4, 5, 6, 7, 8, 9, 17] }
def f36.s0.ho : Hint := { lv := [4, 5, 8] }
def f36.s0.shp (x : Int × List Int × List Int × List Int × List Int × List Int) : VS := ⟨[(4, .ptr 0 0), (5, .ptr 1 0), (6, .ptr 2 0), (7, .ptr 3 0), (8, .ptr 4 0), (9, .fn 94 [.ptr 4 0]), (17, .int .i64 x.1)], [(0, ([.ints .u64 4 x.2.1], 24, .norm)), (1, ([.ints .u64 4 x.2.2.1], 24, .norm)), (2, ([.ints .u64 8 x.2.2.2.1], 78, .norm)), (3, ([.ints .u64 8 x.2.2.2.2.1], 78, .norm)), (4, ([.ints .u64 16 x.2.2.2.2.2], 80, .norm))], 5⟩
def f36.s0.inX : VS → Option (Int × List Int × List Int × List Int × List Int × List Int)
  | ⟨[(4, .ptr 0 0), (5, .ptr 1 0), (6, .ptr 2 0), (7, .ptr 3 0), (8, .ptr 4 0), (9, .fn 94 [.ptr 4 0]), (17, .int .i64 t17)], [(0, ([.ints .u64 4 b0], 24, .norm)), (1, ([.ints .u64 4 b1], 24, .norm)), (2, ([.ints .u64 8 b2], 78, .norm)), (3, ([.ints .u64 8 b3], 78, .norm)), (4, ([.ints .u64 16 b4], 80, .norm))], 5⟩ => some (t17, b0, b1, b2, b3, b4)
  | _ => none
def f36.s0.o0 (y : List Int × List Int × List Int) : VS := ⟨[(4, .ptr 0 0), (5, .ptr 1 0), (8, .ptr 2 0)], [(0, ([.ints .u64 4 y.1], 24, .norm)), (1, ([.ints .u64 4 y.2.1], 24, .norm)), (2, ([.ints .u64 16 y.2.2], 80, .norm))], 3⟩
def f36.s0.des : ∀ α : Type, (List Int × List Int × List Int) → (Ex → VS → Option α) → Option α := (des1 (.exit 0) f36.s0.o0)
def f36.s0.out : List Int × List Int × List Int → Ex × VS := (fun y => (.exit 0, f36.s0.o0 y))
theorem f36.s0.desOK : ∀ α y (k : Ex → VS → Option α), f36.s0.des α y k = k (f36.s0.out y).1 (f36.s0.out y).2 := (fun _ _ _ => rfl)
def f36.s0.inY : Ex → VS → Option (List Int × List Int × List Int)
  | .exit 0, ⟨[(4, .ptr 0 0), (5, .ptr 1 0), (8, .ptr 2 0)], [(0, ([.ints .u64 4 b0], 24, .norm)), (1, ([.ints .u64 4 b1], 24, .norm)), (2, ([.ints .u64 16 b2], 80, .norm))], 3⟩ => some (b0, b1, b2)
  | _, _ => none
def f36.lp (K : Nat) : Nat → Option (Hint × Summ) := tabLp [(2, f36.s2.h, summOf (iter (f36.s2 K) K) f36.s2.inX f36.s2.des), (0, f36.s0.h, summOf (iter (f36.s0 K) K) f36.s0.inX f36.s0.des)]
noncomputable def f36.tab (K : Nat) : List (Nat × Entry) := [(92, (f92.E K)), (94, (f94.E K)), (93, (f93.E K))]
theorem f36.tabOK (K : Nat) : SpecOK Try.prog (tabSp (f36.tab K)) := tab_ok ((tab_cons (f92.ok K) (tab_cons (f94.ok K) (tab_cons (f93.ok K) tab_nil))))
theorem f36.s2.eq (K : Nat) (rec : Int × Int × Int × List Int × List Int × List Int × List Int × List Int → Option (Int × List Int × List Int × List Int × List Int × List Int)) (x : Int × Int × Int × List Int × List Int × List Int × List Int × List Int) : f36.s2 K rec x = roundL (getA tys) (tabSp (f36.tab K)) 43 0 (f36.lp K) 400 f36.s2.b f36.s2.h f36.s2.ho f36.s2.shp f36.s2.inX f36.s2.inY rec x := by kernel_rfl
theorem f36.s2.lok (K : Nat) : LoopsOK Try.prog 43 0 (f36.lp K) f36.s2.b := loops_ok (by
  have h : loopsIn (f36.lp K) f36.s2.b = [] := by kernel_rfl
  rw [h]; simp)
theorem f36.s2.ok (K : Nat) : SummOK Try.prog 43 0 (summOf (iter (f36.s2 K) K) f36.s2.inX f36.s2.des) f36.s2.b :=
  loop_ok mix tys_ok (f36.tabOK K) (h := f36.s2.h) (ho := f36.s2.ho) (shp := f36.s2.shp) (inX := f36.s2.inX) (des := f36.s2.des) (out := f36.s2.out) (inY := f36.s2.inY) (fuel := 400)
    (by intro st x h; unfold f36.s2.inX at h; split at h <;> simp at h; subst h; rfl)
    (by intro e st y h; unfold f36.s2.inY at h; split at h <;> simp at h <;> subst h <;> rfl)
    f36.s2.desOK (f36.s2.lok K) (f36.s2 K) (f36.s2.eq K) K
theorem f36.s0.eq (K : Nat) (rec : Int × List Int × List Int × List Int × List Int × List Int → Option (List Int × List Int × List Int)) (x : Int × List Int × List Int × List Int × List Int × List Int) : f36.s0 K rec x = roundL (getA tys) (tabSp (f36.tab K)) 43 0 (f36.lp K) 400 f36.s0.b f36.s0.h f36.s0.ho f36.s0.shp f36.s0.inX f36.s0.inY rec x := by kernel_rfl
theorem f36.s0.lok (K : Nat) : LoopsOK Try.prog 43 0 (f36.lp K) f36.s0.b := loops_ok (by
  have h : loopsIn (f36.lp K) f36.s0.b = [(2, f36.s2.b)] := by kernel_rfl
  rw [h]
  intro p hp
  simp only [List.mem_cons, List.not_mem_nil, or_false] at hp
  rcases hp with rfl
  · exact ⟨_, rfl, (f36.s2.ok K)⟩)
theorem f36.s0.ok (K : Nat) : SummOK Try.prog 43 0 (summOf (iter (f36.s0 K) K) f36.s0.inX f36.s0.des) f36.s0.b :=
  loop_ok mix tys_ok (f36.tabOK K) (h := f36.s0.h) (ho := f36.s0.ho) (shp := f36.s0.shp) (inX := f36.s0.inX) (des := f36.s0.des) (out := f36.s0.out) (inY := f36.s0.inY) (fuel := 400)
    (by intro st x h; unfold f36.s0.inX at h; split at h <;> simp at h; subst h; rfl)
    (by intro e st y h; unfold f36.s0.inY at h; split at h <;> simp at h <;> subst h <;> rfl)
    f36.s0.desOK (f36.s0.lok K) (f36.s0 K) (f36.s0.eq K) K
theorem f36.loops (K : Nat) : LoopsOK Try.prog 43 0 (f36.lp K) f36.c := loops_ok (by
  have h : loopsIn (f36.lp K) f36.c = [(0, f36.s0.b), (2, f36.s2.b)] := by kernel_rfl
  rw [h]
  intro p hp
  simp only [List.mem_cons, List.not_mem_nil, or_false] at hp
  rcases hp with rfl | rfl
  · exact ⟨_, rfl, (f36.s0.ok K)⟩
  · exact ⟨_, rfl, (f36.s2.ok K)⟩)
def f36.T (K : Nat) (a0 : List Int) (a1 : List Int) : Option (List Int × List Int) :=
  (f92.F K a0).bind fun y1 =>
  (f92.F K a1).bind fun y2 =>
  (iter (f36.s0 K) K (0, [0, 0, 0, 0], [0, 0, 0, 0], y1, y2, [0, 0, 0, 0, 0, 0, 0, 0, 0, 0, 0, 0, 0, 0, 0, 0])).bind fun y15 =>
  (f93.F K (List.take 8 (List.drop 0 y15.2.2))).bind fun y17 =>
  (f93.F K (List.take 8 (List.drop 8 y15.2.2))).bind fun y19 =>
  some (y17, y19)
def f36.F (K : Nat) (x : List Int × List Int) : Option (List Int × List Int) := f36.T K x.1 x.2
def f36.av (x : List Int × List Int) : List VV := [.agg [.ints .u64 4 x.1], .agg [.ints .u64 4 x.2]]
def f36.bl (_x : List Int × List Int) : List (Nat × Blk) := []
def f36.inA : VS → Option (List Int × List Int)
  | ⟨[(0, .agg [.ints .u64 4 a0]), (1, .agg [.ints .u64 4 a1])], [], 0⟩ => some (a0, a1)
  | _ => none
def f36.o0 (y : List Int × List Int) : VS := ⟨[(0, .tup [.agg [.ints .u64 4 y.1], .agg [.ints .u64 4 y.2]])], [], 0⟩
def f36.des : ∀ α : Type, (List Int × List Int) → (VS → Option α) → Option α := (dv1 f36.o0)
def f36.out : List Int × List Int → VS := f36.o0
def f36.inR : VS → Option (List Int × List Int)
  | ⟨[(0, .tup [.agg [.ints .u64 4 y_0], .agg [.ints .u64 4 y_1]])], [], 0⟩ => some (y_0, y_1)
  | _ => none
noncomputable def f36.E (K : Nat) : Entry := genE 0 f36.inA (f36.F K) f36.des
theorem f36.eq (K : Nat) (x : List Int × List Int) : f36.F K x = xrun (getA tys) (tabSp (f36.tab K)) Try.f36.ntmps 0 (f36.lp K) 400 f36.c ⟨initL 0 (f36.av x), f36.bl x, 0⟩ (contF (getA tys) 0 Try.f36.results.toList f36.inR) := by kernel_rfl
theorem f36.ok (K : Nat) : EntryOK Try.prog 36 (f36.E K) :=
  gen_ok mix tys_ok (f36.tabOK K) Try.func36 (by kernel_rfl : Try.f36.body = some f36.c) (by kernel_rfl) (f36.loops K) (av := f36.av) (bl := f36.bl) (out := f36.out) (fuel := 400)
    (by intro s x h; unfold f36.inA at h; split at h <;> simp at h; subst h; rfl) (fun _ => Nat.le_of_ble_eq_true rfl)
    (by intro s y h; unfold f36.inR at h; split at h <;> simp at h <;> subst h <;> rfl) (fun _ _ _ => rfl) (f36.eq K)
end Go.Proofs

namespace Go.Proofs
open Go.VM
/-! ### burrow/burrowref02.Of -/
noncomputable def f47.c : Code := bodyOf Try.f47
def f47.lp (_ : Nat) : Nat → Option (Hint × Summ) := fun _ => none
noncomputable def f47.tab (_K : Nat) : List (Nat × Entry) := []
theorem f47.tabOK (K : Nat) : SpecOK Try.prog (tabSp (f47.tab K)) := tab_ok ( tab_nil)
theorem f47.loops (K : Nat) : LoopsOK Try.prog 5 0 (f47.lp K) f47.c := loops_ok (by
  have h : loopsIn (f47.lp K) f47.c = [] := by kernel_rfl
  rw [h]; simp)
def f47.T (_K : Nat) (a0 : Int) : Option (List Int) :=
  some ([a0, 0, 0, 0])
def f47.F (K : Nat) (x : Int) : Option (List Int) := f47.T K x
def f47.av (x : Int) : List VV := [.int .u64 x]
def f47.bl (_x : Int) : List (Nat × Blk) := []
def f47.inA : VS → Option (Int)
  | ⟨[(0, .int .u64 a0)], [], 0⟩ => some a0
  | _ => none
def f47.o0 (y : List Int) : VS := ⟨[(0, .agg [.ints .u64 4 y])], [], 0⟩
def f47.des : ∀ α : Type, (List Int) → (VS → Option α) → Option α := (dv1 f47.o0)
def f47.out : List Int → VS := f47.o0
def f47.inR : VS → Option (List Int)
  | ⟨[(0, .agg [.ints .u64 4 y])], [], 0⟩ => some y
  | _ => none
noncomputable def f47.E (K : Nat) : Entry := genE 0 f47.inA (f47.F K) f47.des
theorem f47.eq (K : Nat) (x : Int) : f47.F K x = xrun (getA tys) (tabSp (f47.tab K)) Try.f47.ntmps 0 (f47.lp K) 400 f47.c ⟨initL 0 (f47.av x), f47.bl x, 0⟩ (contF (getA tys) 0 Try.f47.results.toList f47.inR) := by kernel_rfl
theorem f47.ok (K : Nat) : EntryOK Try.prog 47 (f47.E K) :=
  gen_ok mix tys_ok (f47.tabOK K) Try.func47 (by kernel_rfl : Try.f47.body = some f47.c) (by kernel_rfl) (f47.loops K) (av := f47.av) (bl := f47.bl) (out := f47.out) (fuel := 400)
    (by intro s x h; unfold f47.inA at h; split at h <;> simp at h; subst h; rfl) (fun _ => Nat.le_of_ble_eq_true rfl)
    (by intro s y h; unfold f47.inR at h; split at h <;> simp at h <;> subst h <;> rfl) (fun _ _ _ => rfl) (f47.eq K)
end Go.Proofs

namespace Go.Proofs
open Go.VM
/-! ### burrow/burrowref02.Bit -/
noncomputable def f41.c : Code := bodyOf Try.f41
def f41.lp (_ : Nat) : Nat → Option (Hint × Summ) := fun _ => none
noncomputable def f41.tab (_K : Nat) : List (Nat × Entry) := []
theorem f41.tabOK (K : Nat) : SpecOK Try.prog (tabSp (f41.tab K)) := tab_ok ( tab_nil)
theorem f41.loops (K : Nat) : LoopsOK Try.prog 22 0 (f41.lp K) f41.c := loops_ok (by
  have h : loopsIn (f41.lp K) f41.c = [] := by kernel_rfl
  rw [h]; simp)
def f41.T (_K : Nat) (a0 : List Int) (a1 : Int) : Option (Int) :=
  bif (decide (a1 < 0)) then
    some (0)
  else
    bif (decide (a1 ≥ 256)) then
      some (0)
    else
      let v3 := IntKind.wrap .i64 (Int.tdiv a1 64)
      bif decide (0 ≤ v3 ∧ v3 < 4) then
        let v7 := IntKind.wrap .u64 (Int.tmod a1 64)
        bif decide (0 ≤ v7) then
          some (Int.tmod (shiftI .shr .u64 (List.getD a0 (Int.toNat v3) 0) v7) 2)
        else
          none
      else
        none
def f41.F (K : Nat) (x : List Int × Int) : Option (Int) := f41.T K x.1 x.2
def f41.av (x : List Int × Int) : List VV := [.agg [.ints .u64 4 x.1], .int .i64 x.2]
def f41.bl (_x : List Int × Int) : List (Nat × Blk) := []
def f41.inA : VS → Option (List Int × Int)
  | ⟨[(0, .agg [.ints .u64 4 a0]), (1, .int .i64 a1)], [], 0⟩ => some (a0, a1)
  | _ => none
def f41.o0 (y : Int) : VS := ⟨[(0, .int .u64 y)], [], 0⟩
def f41.des : ∀ α : Type, Int → (VS → Option α) → Option α := (dv1 f41.o0)
def f41.out : Int → VS := f41.o0
def f41.inR : VS → Option (Int)
  | ⟨[(0, .int .u64 y)], [], 0⟩ => some y
  | _ => none
noncomputable def f41.E (K : Nat) : Entry := genE 0 f41.inA (f41.F K) f41.des
theorem f41.eq (K : Nat) (x : List Int × Int) : f41.F K x = xrun (getA tys) (tabSp (f41.tab K)) Try.f41.ntmps 0 (f41.lp K) 400 f41.c ⟨initL 0 (f41.av x), f41.bl x, 0⟩ (contF (getA tys) 0 Try.f41.results.toList f41.inR) := by kernel_rfl
theorem f41.ok (K : Nat) : EntryOK Try.prog 41 (f41.E K) :=
  gen_ok mix tys_ok (f41.tabOK K) Try.func41 (by kernel_rfl : Try.f41.body = some f41.c) (by kernel_rfl) (f41.loops K) (av := f41.av) (bl := f41.bl) (out := f41.out) (fuel := 400)
    (by intro s x h; unfold f41.inA at h; split at h <;> simp at h; subst h; rfl) (fun _ => Nat.le_of_ble_eq_true rfl)
    (by intro s y h; unfold f41.inR at h; split at h <;> simp at h <;> subst h <;> rfl) (fun _ _ _ => rfl) (f41.eq K)
end Go.Proofs

namespace Go.Proofs
open Go.VM
/-! ### burrow/burrowref02.Mul -/
noncomputable def f37.c : Code := bodyOf Try.f37
def f37.s0t (K : Nat) (rec : Int × List Int × List Int × List Int × List Int × List Int × List Int → Option (List Int × List Int × List Int × List Int)) (t8 : Int) (b0 : List Int) (b1 : List Int) (b2 : List Int) (b3 : List Int) (b4 : List Int) (b5 : List Int) : Option (List Int × List Int × List Int × List Int) :=
  bif (decide (t8 ≥ 0)) then
    (f33.F K (b4, b4)).bind fun y2 =>
    (f33.F K (b5, b5)).bind fun y3 =>
    (f47.F K y2.2).bind fun y4 =>
    (f33.F K (y3.1, y4)).bind fun y5 =>
    (f41.F K (b1, t8)).bind fun y6 =>
    bif (y6 == 1) then
      (f33.F K (y2.1, b0)).bind fun y7 =>
      (f47.F K y7.2).bind fun y8 =>
      (f33.F K (y5.1, y8)).bind fun y9 =>
      rec ((IntKind.wrap .i64 (t8 - 1)), b0, b1, b2, b3, y7.1, y9.1)
    else
      rec ((IntKind.wrap .i64 (t8 - 1)), b0, b1, b2, b3, y2.1, y5.1)
  else
    some (b2, b3, b4, b5)
def f37.s0 (K : Nat) (rec : Int × List Int × List Int × List Int × List Int × List Int × List Int → Option (List Int × List Int × List Int × List Int)) (x : Int × List Int × List Int × List Int × List Int × List Int × List Int) : Option (List Int × List Int × List Int × List Int) := f37.s0t K rec x.1 x.2.1 x.2.2.1 x.2.2.2.1 x.2.2.2.2.1 x.2.2.2.2.2.1 x.2.2.2.2.2.2
noncomputable def f37.s0.b : Code := (findLoop 0 f37.c).getD .skip
def f37.s0.h : Hint := { lv := [2, 3, 4, 5, 6, 7, 8] }
def f37.s0.ho : Hint := { lv := [4, 5, 6, 7] }
def f37.s0.shp (x : Int × List Int × List Int × List Int × List Int × List Int × List Int) : VS := ⟨[(2, .ptr 0 0), (3, .ptr 1 0), (4, .ptr 2 0), (5, .ptr 3 0), (6, .ptr 4 0), (7, .ptr 5 0), (8, .int .i64 x.1)], [(0, ([.ints .u64 4 x.2.1], 24, .norm)), (1, ([.ints .u64 4 x.2.2.1], 24, .norm)), (2, ([.ints .u64 4 x.2.2.2.1], 24, .norm)), (3, ([.ints .u64 4 x.2.2.2.2.1], 24, .norm)), (4, ([.ints .u64 4 x.2.2.2.2.2.1], 24, .norm)), (5, ([.ints .u64 4 x.2.2.2.2.2.2], 24, .norm))], 6⟩
def f37.s0.inX : VS → Option (Int × List Int × List Int × List Int × List Int × List Int × List Int)
  | ⟨[(2, .ptr 0 0), (3, .ptr 1 0), (4, .ptr 2 0), (5, .ptr 3 0), (6, .ptr 4 0), (7, .ptr 5 0), (8, .int .i64 t8)], [(0, ([.ints .u64 4 b0], 24, .norm)), (1, ([.ints .u64 4 b1], 24, .norm)), (2, ([.ints .u64 4 b2], 24, .norm)), (3, ([.ints .u64 4 b3], 24, .norm)), (4, ([.ints .u64 4 b4], 24, .norm)), (5, ([.ints .u64 4 b5], 24, .norm))], 6⟩ => some (t8, b0, b1, b2, b3, b4, b5)
  | _ => none
def f37.s0.o0 (y : List Int × List Int × List Int × List Int) : VS := ⟨[(4, .ptr 0 0), (5, .ptr 1 0), (6, .ptr 2 0), (7, .ptr 3 0)], [(0, ([.ints .u64 4 y.1], 24, .norm)), (1, ([.ints .u64 4 y.2.1], 24, .norm)), (2, ([.ints .u64 4 y.2.2.1], 24, .norm)), (3, ([.ints .u64 4 y.2.2.2], 24, .norm))], 4⟩
def f37.s0.des : ∀ α : Type, (List Int × List Int × List Int × List Int) → (Ex → VS → Option α) → Option α := (des1 (.exit 0) f37.s0.o0)
def f37.s0.out : List Int × List Int × List Int × List Int → Ex × VS := (fun y => (.exit 0, f37.s0.o0 y))
theorem f37.s0.desOK : ∀ α y (k : Ex → VS → Option α), f37.s0.des α y k = k (f37.s0.out y).1 (f37.s0.out y).2 := (fun _ _ _ => rfl)
def f37.s0.inY : Ex → VS → Option (List Int × List Int × List Int × List Int)
  | .exit 0, ⟨[(4, .ptr 0 0), (5, .ptr 1 0), (6, .ptr 2 0), (7, .ptr 3 0)], [(0, ([.ints .u64 4 b0], 24, .norm)), (1, ([.ints .u64 4 b1], 24, .norm)), (2, ([.ints .u64 4 b2], 24, .norm)), (3, ([.ints .u64 4 b3], 24, .norm))], 4⟩ => some (b0, b1, b2, b3)
  | _, _ => none
def f37.lp (K : Nat) : Nat → Option (Hint × Summ) := tabLp [(0, f37.s0.h, summOf (iter (f37.s0 K) K) f37.s0.inX f37.s0.des)]
noncomputable def f37.tab (K : Nat) : List (Nat × Entry) := [(33, (f33.E K)), (47, (f47.E K)), (41, (f41.E K))]
theorem f37.tabOK (K : Nat) : SpecOK Try.prog (tabSp (f37.tab K)) := tab_ok ((tab_cons (f33.ok K) (tab_cons (f47.ok K) (tab_cons (f41.ok K) tab_nil))))
theorem f37.s0.eq (K : Nat) (rec : Int × List Int × List Int × List Int × List Int × List Int × List Int → Option (List Int × List Int × List Int × List Int)) (x : Int × List Int × List Int × List Int × List Int × List Int × List Int) : f37.s0 K rec x = roundL (getA tys) (tabSp (f37.tab K)) 52 0 (f37.lp K) 400 f37.s0.b f37.s0.h f37.s0.ho f37.s0.shp f37.s0.inX f37.s0.inY rec x := by kernel_rfl
theorem f37.s0.lok (K : Nat) : LoopsOK Try.prog 52 0 (f37.lp K) f37.s0.b := loops_ok (by
  have h : loopsIn (f37.lp K) f37.s0.b = [] := by kernel_rfl
  rw [h]; simp)
theorem f37.s0.ok (K : Nat) : SummOK Try.prog 52 0 (summOf (iter (f37.s0 K) K) f37.s0.inX f37.s0.des) f37.s0.b :=
  loop_ok mix tys_ok (f37.tabOK K) (h := f37.s0.h) (ho := f37.s0.ho) (shp := f37.s0.shp) (inX := f37.s0.inX) (des := f37.s0.des) (out := f37.s0.out) (inY := f37.s0.inY) (fuel := 400)
    (by intro st x h; unfold f37.s0.inX at h; split at h <;> simp at h; subst h; rfl)
    (by intro e st y h; unfold f37.s0.inY at h; split at h <;> simp at h <;> subst h <;> rfl)
    f37.s0.desOK (f37.s0.lok K) (f37.s0 K) (f37.s0.eq K) K
theorem f37.loops (K : Nat) : LoopsOK Try.prog 52 0 (f37.lp K) f37.c := loops_ok (by
  have h : loopsIn (f37.lp K) f37.c = [(0, f37.s0.b)] := by kernel_rfl
  rw [h]
  intro p hp
  simp only [List.mem_cons, List.not_mem_nil, or_false] at hp
  rcases hp with rfl
  · exact ⟨_, rfl, (f37.s0.ok K)⟩)
def f37.T (K : Nat) (a0 : List Int) (a1 : List Int) : Option (List Int × List Int) :=
  (iter (f37.s0 K) K (255, a0, a1, [0, 0, 0, 0], [0, 0, 0, 0], [0, 0, 0, 0], [0, 0, 0, 0])).bind fun y12 =>
  some (y12.2.2.1, y12.2.2.2)
def f37.F (K : Nat) (x : List Int × List Int) : Option (List Int × List Int) := f37.T K x.1 x.2
def f37.av (x : List Int × List Int) : List VV := [.agg [.ints .u64 4 x.1], .agg [.ints .u64 4 x.2]]
def f37.bl (_x : List Int × List Int) : List (Nat × Blk) := []
def f37.inA : VS → Option (List Int × List Int)
  | ⟨[(0, .agg [.ints .u64 4 a0]), (1, .agg [.ints .u64 4 a1])], [], 0⟩ => some (a0, a1)
  | _ => none
def f37.o0 (y : List Int × List Int) : VS := ⟨[(0, .tup [.agg [.ints .u64 4 y.1], .agg [.ints .u64 4 y.2]])], [], 0⟩
def f37.des : ∀ α : Type, (List Int × List Int) → (VS → Option α) → Option α := (dv1 f37.o0)
def f37.out : List Int × List Int → VS := f37.o0
def f37.inR : VS → Option (List Int × List Int)
  | ⟨[(0, .tup [.agg [.ints .u64 4 y_0], .agg [.ints .u64 4 y_1]])], [], 0⟩ => some (y_0, y_1)
  | _ => none
noncomputable def f37.E (K : Nat) : Entry := genE 0 f37.inA (f37.F K) f37.des
theorem f37.eq (K : Nat) (x : List Int × List Int) : f37.F K x = xrun (getA tys) (tabSp (f37.tab K)) Try.f37.ntmps 0 (f37.lp K) 400 f37.c ⟨initL 0 (f37.av x), f37.bl x, 0⟩ (contF (getA tys) 0 Try.f37.results.toList f37.inR) := by kernel_rfl
theorem f37.ok (K : Nat) : EntryOK Try.prog 37 (f37.E K) :=
  gen_ok mix tys_ok (f37.tabOK K) Try.func37 (by kernel_rfl : Try.f37.body = some f37.c) (by kernel_rfl) (f37.loops K) (av := f37.av) (bl := f37.bl) (out := f37.out) (fuel := 400)
    (by intro s x h; unfold f37.inA at h; split at h <;> simp at h; subst h; rfl) (fun _ => Nat.le_of_ble_eq_true rfl)
    (by intro s y h; unfold f37.inR at h; split at h <;> simp at h <;> subst h <;> rfl) (fun _ _ _ => rfl) (f37.eq K)
end Go.Proofs

namespace Go.Proofs
open Go.VM
/-! ### burrow/limbs.Shift -/
noncomputable def f38.c : Code := bodyOf Try.f38
def f38.s2t (_K : Nat) (rec : Int × Int × List Int × Int × List Int × Int × List Int × List Int → Option (Int × List Int × Int × List Int × List Int)) (t7 : Int) (t11 : Int) (t27 : List Int) (t28 : Int) (t49 : List Int) (t50 : Int) (b0 : List Int) (b1 : List Int) : Option (Int × List Int × Int × List Int × List Int) :=
  bif (decide (t50 < 2)) then
    bif decide (0 ≤ t50 ∧ t50 < 2) then
      bif (decide ((IntKind.wrap .i64 (t11 + t50)) ≥ 0)) then
        bif (decide ((IntKind.wrap .i64 (t11 + t50)) < 8)) then
          let v24 := IntKind.wrap .i64 (t11 + t50)
          bif decide (0 ≤ v24 ∧ v24 < 8) then
            bif decide (0 ≤ v24 ∧ v24 < 8) then
              rec (t7, t11, t27, t28, t49, (IntKind.wrap .i64 (t50 + 1)), b0, (setD b1 (Int.toNat v24) (bits .or .u64 (List.getD b1 (Int.toNat v24) 0) (List.getD t49 (Int.toNat t50) 0))))
            else
              none
          else
            none
        else
          rec (t7, t11, t27, t28, t49, (IntKind.wrap .i64 (t50 + 1)), b0, b1)
      else
        rec (t7, t11, t27, t28, t49, (IntKind.wrap .i64 (t50 + 1)), b0, b1)
    else
      none
  else
    some (t7, t27, t28, b0, b1)
def f38.s2 (K : Nat) (rec : Int × Int × List Int × Int × List Int × Int × List Int × List Int → Option (Int × List Int × Int × List Int × List Int)) (x : Int × Int × List Int × Int × List Int × Int × List Int × List Int) : Option (Int × List Int × Int × List Int × List Int) := f38.s2t K rec x.1 x.2.1 x.2.2.1 x.2.2.2.1 x.2.2.2.2.1 x.2.2.2.2.2.1 x.2.2.2.2.2.2.1 x.2.2.2.2.2.2.2
noncomputable def f38.s2.b : Code := (findLoop 2 f38.c).getD .skip
def f38.s2.h : Hint := { lv := [4, 6, 7, 11, 27, 28, 49, 50] }
def f38.s2.ho : Hint := { lv := [4, 6, 7, 27, 28] }
def f38.s2.shp (x : Int × Int × List Int × Int × List Int × Int × List Int × List Int) : VS := ⟨[(4, .ptr 0 0), (6, .ptr 1 0), (7, .int .i64 x.1), (11, .int .i64 x.2.1), (27, .agg [.ints .u64 8 x.2.2.1]), (28, .int .i64 x.2.2.2.1), (49, .agg [.ints .u64 2 x.2.2.2.2.1]), (50, .int .i64 x.2.2.2.2.2.1)], [(0, ([.ints .u64 4 x.2.2.2.2.2.2.1], 24, .norm)), (1, ([.ints .u64 8 x.2.2.2.2.2.2.2], 78, .norm))], 2⟩
def f38.s2.inX : VS → Option (Int × Int × List Int × Int × List Int × Int × List Int × List Int)
  | ⟨[(4, .ptr 0 0), (6, .ptr 1 0), (7, .int .i64 t7), (11, .int .i64 t11), (27, .agg [.ints .u64 8 t27]), (28, .int .i64 t28), (49, .agg [.ints .u64 2 t49]), (50, .int .i64 t50)], [(0, ([.ints .u64 4 b0], 24, .norm)), (1, ([.ints .u64 8 b1], 78, .norm))], 2⟩ => some (t7, t11, t27, t28, t49, t50, b0, b1)
  | _ => none
def f38.s2.o0 (y : Int × List Int × Int × List Int × List Int) : VS := ⟨[(4, .ptr 0 0), (6, .ptr 1 0), (7, .int .i64 y.1), (27, .agg [.ints .u64 8 y.2.1]), (28, .int .i64 y.2.2.1)], [(0, ([.ints .u64 4 y.2.2.2.1], 24, .norm)), (1, ([.ints .u64 8 y.2.2.2.2], 78, .norm))], 2⟩
def f38.s2.des : ∀ α : Type, (Int × List Int × Int × List Int × List Int) → (Ex → VS → Option α) → Option α := (des1 (.exit 2) f38.s2.o0)
def f38.s2.out : Int × List Int × Int × List Int × List Int → Ex × VS := (fun y => (.exit 2, f38.s2.o0 y))
theorem f38.s2.desOK : ∀ α y (k : Ex → VS → Option α), f38.s2.des α y k = k (f38.s2.out y).1 (f38.s2.out y).2 := (fun _ _ _ => rfl)
def f38.s2.inY : Ex → VS → Option (Int × List Int × Int × List Int × List Int)
  | .exit 2, ⟨[(4, .ptr 0 0), (6, .ptr 1 0), (7, .int .i64 t7), (27, .agg [.ints .u64 8 t27]), (28, .int .i64 t28)], [(0, ([.ints .u64 4 b0], 24, .norm)), (1, ([.ints .u64 8 b1], 78, .norm))], 2⟩ => some (t7, t27, t28, b0, b1)
  | _, _ => none
def f38.s0t (K : Nat) (rec : Int × List Int × Int × List Int × List Int → Option (List Int × List Int)) (t7 : Int) (t27 : List Int) (t28 : Int) (b0 : List Int) (b1 : List Int) : Option (List Int × List Int) :=
  bif (decide (t28 < 8)) then
    bif decide (0 ≤ t28 ∧ t28 < 8) then
      let v8 := List.getD t27 (Int.toNat t28) 0
      let v10 := IntKind.wrap .i64 ((IntKind.wrap .i64 (t28 * 32)) + t7)
      let v13 := Int.tmod v10 32
      bif decide (0 ≤ v13) then
        bif decide (0 ≤ v13) then
          (iter (f38.s2 K) K (t7, (IntKind.wrap .i64 ((IntKind.wrap .i64 (Int.tdiv v10 32)) - 8)), t27, t28, [(bits .and .u64 (shiftI .shl .u64 v8 v13) 4294967295), (Int.fdiv (shiftI .shl .u64 v8 v13) (2 ^ 32))], 0, b0, b1)).bind fun y33 =>
          rec (y33.1, y33.2.1, (IntKind.wrap .i64 (y33.2.2.1 + 1)), y33.2.2.2.1, y33.2.2.2.2)
        else
          none
      else
        none
    else
      none
  else
    some (b0, b1)
def f38.s0 (K : Nat) (rec : Int × List Int × Int × List Int × List Int → Option (List Int × List Int)) (x : Int × List Int × Int × List Int × List Int) : Option (List Int × List Int) := f38.s0t K rec x.1 x.2.1 x.2.2.1 x.2.2.2.1 x.2.2.2.2
noncomputable def f38.s0.b : Code := (findLoop 0 f38.c).getD .skip
def f38.s0.h : Hint := { lv := [4, 6, 7, 27, 28] }
def f38.s0.ho : Hint := { lv := [4, 6] }
def f38.s0.shp (x : Int × List Int × Int × List Int × List Int) : VS := ⟨[(4, .ptr 0 0), (6, .ptr 1 0), (7, .int .i64 x.1), (27, .agg [.ints .u64 8 x.2.1]), (28, .int .i64 x.2.2.1)], [(0, ([.ints .u64 4 x.2.2.2.1], 24, .norm)), (1, ([.ints .u64 8 x.2.2.2.2], 78, .norm))], 2⟩
def f38.s0.inX : VS → Option (Int × List Int × Int × List Int × List Int)
  | ⟨[(4, .ptr 0 0), (6, .ptr 1 0), (7, .int .i64 t7), (27, .agg [.ints .u64 8 t27]), (28, .int .i64 t28)], [(0, ([.ints .u64 4 b0], 24, .norm)), (1, ([.ints .u64 8 b1], 78, .norm))], 2⟩ => some (t7, t27, t28, b0, b1)
  | _ => none
def f38.s0.o0 (y : List Int × List Int) : VS := ⟨[(4, .ptr 0 0), (6, .ptr 1 0)], [(0, ([.ints .u64 4 y.1], 24, .norm)), (1, ([.ints .u64 8 y.2], 78, .norm))], 2⟩
def f38.s0.des : ∀ α : Type, (List Int × List Int) → (Ex → VS → Option α) → Option α := (des1 (.exit 0) f38.s0.o0)
def f38.s0.out : List Int × List Int → Ex × VS := (fun y => (.exit 0, f38.s0.o0 y))
theorem f38.s0.desOK : ∀ α y (k : Ex → VS → Option α), f38.s0.des α y k = k (f38.s0.out y).1 (f38.s0.out y).2 := (fun _ _ _ => rfl)
def f38.s0.inY : Ex → VS → Option (List Int × List Int)
  | .exit 0, ⟨[(4, .ptr 0 0), (6, .ptr 1 0)], [(0, ([.ints .u64 4 b0], 24, .norm)), (1, ([.ints .u64 8 b1], 78, .norm))], 2⟩ => some (b0, b1)
  | _, _ => none
def f38.lp (K : Nat) : Nat → Option (Hint × Summ) := tabLp [(2, f38.s2.h, summOf (iter (f38.s2 K) K) f38.s2.inX f38.s2.des), (0, f38.s0.h, summOf (iter (f38.s0 K) K) f38.s0.inX f38.s0.des)]
noncomputable def f38.tab (K : Nat) : List (Nat × Entry) := [(92, (f92.E K)), (93, (f93.E K))]
theorem f38.tabOK (K : Nat) : SpecOK Try.prog (tabSp (f38.tab K)) := tab_ok ((tab_cons (f92.ok K) (tab_cons (f93.ok K) tab_nil)))
theorem f38.s2.eq (K : Nat) (rec : Int × Int × List Int × Int × List Int × Int × List Int × List Int → Option (Int × List Int × Int × List Int × List Int)) (x : Int × Int × List Int × Int × List Int × Int × List Int × List Int) : f38.s2 K rec x = roundL (getA tys) (tabSp (f38.tab K)) 76 0 (f38.lp K) 400 f38.s2.b f38.s2.h f38.s2.ho f38.s2.shp f38.s2.inX f38.s2.inY rec x := by kernel_rfl
theorem f38.s2.lok (K : Nat) : LoopsOK Try.prog 76 0 (f38.lp K) f38.s2.b := loops_ok (by
  have h : loopsIn (f38.lp K) f38.s2.b = [] := by kernel_rfl
  rw [h]; simp)
theorem f38.s2.ok (K : Nat) : SummOK Try.prog 76 0 (summOf (iter (f38.s2 K) K) f38.s2.inX f38.s2.des) f38.s2.b :=
  loop_ok mix tys_ok (f38.tabOK K) (h := f38.s2.h) (ho := f38.s2.ho) (shp := f38.s2.shp) (inX := f38.s2.inX) (des := f38.s2.des) (out := f38.s2.out) (inY := f38.s2.inY) (fuel := 400)
    (by intro st x h; unfold f38.s2.inX at h; split at h <;> simp at h; subst h; rfl)
    (by intro e st y h; unfold f38.s2.inY at h; split at h <;> simp at h <;> subst h <;> rfl)
    f38.s2.desOK (f38.s2.lok K) (f38.s2 K) (f38.s2.eq K) K
theorem f38.s0.eq (K : Nat) (rec : Int × List Int × Int × List Int × List Int → Option (List Int × List Int)) (x : Int × List Int × Int × List Int × List Int) : f38.s0 K rec x = roundL (getA tys) (tabSp (f38.tab K)) 76 0 (f38.lp K) 400 f38.s0.b f38.s0.h f38.s0.ho f38.s0.shp f38.s0.inX f38.s0.inY rec x := by kernel_rfl
theorem f38.s0.lok (K : Nat) : LoopsOK Try.prog 76 0 (f38.lp K) f38.s0.b := loops_ok (by
  have h : loopsIn (f38.lp K) f38.s0.b = [(2, f38.s2.b)] := by kernel_rfl
  rw [h]
  intro p hp
  simp only [List.mem_cons, List.not_mem_nil, or_false] at hp
  rcases hp with rfl
  · exact ⟨_, rfl, (f38.s2.ok K)⟩)
theorem f38.s0.ok (K : Nat) : SummOK Try.prog 76 0 (summOf (iter (f38.s0 K) K) f38.s0.inX f38.s0.des) f38.s0.b :=
  loop_ok mix tys_ok (f38.tabOK K) (h := f38.s0.h) (ho := f38.s0.ho) (shp := f38.s0.shp) (inX := f38.s0.inX) (des := f38.s0.des) (out := f38.s0.out) (inY := f38.s0.inY) (fuel := 400)
    (by intro st x h; unfold f38.s0.inX at h; split at h <;> simp at h; subst h; rfl)
    (by intro e st y h; unfold f38.s0.inY at h; split at h <;> simp at h <;> subst h <;> rfl)
    f38.s0.desOK (f38.s0.lok K) (f38.s0 K) (f38.s0.eq K) K
theorem f38.loops (K : Nat) : LoopsOK Try.prog 76 0 (f38.lp K) f38.c := loops_ok (by
  have h : loopsIn (f38.lp K) f38.c = [(0, f38.s0.b), (2, f38.s2.b)] := by kernel_rfl
  rw [h]
  intro p hp
  simp only [List.mem_cons, List.not_mem_nil, or_false] at hp
  rcases hp with rfl | rfl
  · exact ⟨_, rfl, (f38.s0.ok K)⟩
  · exact ⟨_, rfl, (f38.s2.ok K)⟩)
def f38.T (K : Nat) (a0 : List Int) (a1 : Int) : Option (List Int) :=
  (f92.F K a0).bind fun y1 =>
  bif (decide (a1 ≤ (-256))) then
    (f93.F K [0, 0, 0, 0, 0, 0, 0, 0]).bind fun y3 =>
    some y3
  else
    bif (decide (a1 ≥ 256)) then
      (f93.F K [0, 0, 0, 0, 0, 0, 0, 0]).bind fun y5 =>
      some y5
    else
      (iter (f38.s0 K) K ((IntKind.wrap .i64 (a1 + 256)), y1, 0, [0, 0, 0, 0], [0, 0, 0, 0, 0, 0, 0, 0])).bind fun y35 =>
      (f93.F K y35.2).bind fun y36 =>
      some y36
def f38.F (K : Nat) (x : List Int × Int) : Option (List Int) := f38.T K x.1 x.2
def f38.av (x : List Int × Int) : List VV := [.agg [.ints .u64 4 x.1], .int .i64 x.2]
def f38.bl (_x : List Int × Int) : List (Nat × Blk) := []
def f38.inA : VS → Option (List Int × Int)
  | ⟨[(0, .agg [.ints .u64 4 a0]), (1, .int .i64 a1)], [], 0⟩ => some (a0, a1)
  | _ => none
def f38.o0 (y : List Int) : VS := ⟨[(0, .agg [.ints .u64 4 y])], [], 0⟩
def f38.des : ∀ α : Type, (List Int) → (VS → Option α) → Option α := (dv1 f38.o0)
def f38.out : List Int → VS := f38.o0
def f38.inR : VS → Option (List Int)
  | ⟨[(0, .agg [.ints .u64 4 y])], [], 0⟩ => some y
  | _ => none
noncomputable def f38.E (K : Nat) : Entry := genE 0 f38.inA (f38.F K) f38.des
theorem f38.eq (K : Nat) (x : List Int × Int) : f38.F K x = xrun (getA tys) (tabSp (f38.tab K)) Try.f38.ntmps 0 (f38.lp K) 400 f38.c ⟨initL 0 (f38.av x), f38.bl x, 0⟩ (contF (getA tys) 0 Try.f38.results.toList f38.inR) := by kernel_rfl
theorem f38.ok (K : Nat) : EntryOK Try.prog 38 (f38.E K) :=
  gen_ok mix tys_ok (f38.tabOK K) Try.func38 (by kernel_rfl : Try.f38.body = some f38.c) (by kernel_rfl) (f38.loops K) (av := f38.av) (bl := f38.bl) (out := f38.out) (fuel := 400)
    (by intro s x h; unfold f38.inA at h; split at h <;> simp at h; subst h; rfl) (fun _ => Nat.le_of_ble_eq_true rfl)
    (by intro s y h; unfold f38.inR at h; split at h <;> simp at h <;> subst h <;> rfl) (fun _ _ _ => rfl) (f38.eq K)
end Go.Proofs

namespace Go.Proofs
open Go.VM
/-! ### burrow/burrowref02.Shift -/
noncomputable def f39.c : Code := bodyOf Try.f39
def f39.s0t (K : Nat) (rec : Int × Int × List Int × List Int → Option (Int × List Int × List Int)) (t1 : Int) (t5 : Int) (b0 : List Int) (b1 : List Int) : Option (Int × List Int × List Int) :=
  bif (decide (t5 < t1)) then
    (f33.F K (b0, b0)).bind fun y4 =>
    rec (t1, (IntKind.wrap .i64 (t5 + 1)), y4.1, b1)
  else
    some (t1, b0, b1)
def f39.s0 (K : Nat) (rec : Int × Int × List Int × List Int → Option (Int × List Int × List Int)) (x : Int × Int × List Int × List Int) : Option (Int × List Int × List Int) := f39.s0t K rec x.1 x.2.1 x.2.2.1 x.2.2.2
noncomputable def f39.s0.b : Code := (findLoop 0 f39.c).getD .skip
def f39.s0.h : Hint := { lv := [1, 2, 4, 5] }
def f39.s0.ho : Hint := { lv := [1, 2, 4] }
def f39.s0.shp (x : Int × Int × List Int × List Int) : VS := ⟨[(1, .int .i64 x.1), (2, .ptr 0 0), (4, .ptr 1 0), (5, .int .i64 x.2.1)], [(0, ([.ints .u64 4 x.2.2.1], 24, .norm)), (1, ([.ints .u64 4 x.2.2.2], 24, .norm))], 2⟩
def f39.s0.inX : VS → Option (Int × Int × List Int × List Int)
  | ⟨[(1, .int .i64 t1), (2, .ptr 0 0), (4, .ptr 1 0), (5, .int .i64 t5)], [(0, ([.ints .u64 4 b0], 24, .norm)), (1, ([.ints .u64 4 b1], 24, .norm))], 2⟩ => some (t1, t5, b0, b1)
  | _ => none
def f39.s0.o0 (y : Int × List Int × List Int) : VS := ⟨[(1, .int .i64 y.1), (2, .ptr 0 0), (4, .ptr 1 0)], [(0, ([.ints .u64 4 y.2.1], 24, .norm)), (1, ([.ints .u64 4 y.2.2], 24, .norm))], 2⟩
def f39.s0.des : ∀ α : Type, (Int × List Int × List Int) → (Ex → VS → Option α) → Option α := (des1 (.exit 0) f39.s0.o0)
def f39.s0.out : Int × List Int × List Int → Ex × VS := (fun y => (.exit 0, f39.s0.o0 y))
theorem f39.s0.desOK : ∀ α y (k : Ex → VS → Option α), f39.s0.des α y k = k (f39.s0.out y).1 (f39.s0.out y).2 := (fun _ _ _ => rfl)
def f39.s0.inY : Ex → VS → Option (Int × List Int × List Int)
  | .exit 0, ⟨[(1, .int .i64 t1), (2, .ptr 0 0), (4, .ptr 1 0)], [(0, ([.ints .u64 4 b0], 24, .norm)), (1, ([.ints .u64 4 b1], 24, .norm))], 2⟩ => some (t1, b0, b1)
  | _, _ => none
def f39.s2t (K : Nat) (rec : Int × Int × List Int × List Int × List Int → Option (List Int × List Int)) (t1 : Int) (t7 : Int) (b0 : List Int) (b1 : List Int) (b2 : List Int) : Option (List Int × List Int) :=
  bif (decide (t7 ≥ (IntKind.wrap .i64 (0 - t1)))) then
    (f33.F K (b2, b2)).bind fun y10 =>
    (f41.F K (b0, t7)).bind fun y12 =>
    rec (t1, (IntKind.wrap .i64 (t7 - 1)), b0, b1, (setD y10.1 0 (IntKind.wrap .u64 ((List.getD y10.1 0 0) + y12))))
  else
    some (b1, b2)
def f39.s2 (K : Nat) (rec : Int × Int × List Int × List Int × List Int → Option (List Int × List Int)) (x : Int × Int × List Int × List Int × List Int) : Option (List Int × List Int) := f39.s2t K rec x.1 x.2.1 x.2.2.1 x.2.2.2.1 x.2.2.2.2
noncomputable def f39.s2.b : Code := (findLoop 2 f39.c).getD .skip
def f39.s2.h : Hint := { lv := [1, 2, 4, 6, 7] }
def f39.s2.ho : Hint := { lv := [4, 6] }
def f39.s2.shp (x : Int × Int × List Int × List Int × List Int) : VS := ⟨[(1, .int .i64 x.1), (2, .ptr 0 0), (4, .ptr 1 0), (6, .ptr 2 0), (7, .int .i64 x.2.1)], [(0, ([.ints .u64 4 x.2.2.1], 24, .norm)), (1, ([.ints .u64 4 x.2.2.2.1], 24, .norm)), (2, ([.ints .u64 4 x.2.2.2.2], 24, .norm))], 3⟩
def f39.s2.inX : VS → Option (Int × Int × List Int × List Int × List Int)
  | ⟨[(1, .int .i64 t1), (2, .ptr 0 0), (4, .ptr 1 0), (6, .ptr 2 0), (7, .int .i64 t7)], [(0, ([.ints .u64 4 b0], 24, .norm)), (1, ([.ints .u64 4 b1], 24, .norm)), (2, ([.ints .u64 4 b2], 24, .norm))], 3⟩ => some (t1, t7, b0, b1, b2)
  | _ => none
def f39.s2.o0 (y : List Int × List Int) : VS := ⟨[(4, .ptr 0 0), (6, .ptr 1 0)], [(0, ([.ints .u64 4 y.1], 24, .norm)), (1, ([.ints .u64 4 y.2], 24, .norm))], 2⟩
def f39.s2.des : ∀ α : Type, (List Int × List Int) → (Ex → VS → Option α) → Option α := (des1 (.exit 2) f39.s2.o0)
def f39.s2.out : List Int × List Int → Ex × VS := (fun y => (.exit 2, f39.s2.o0 y))
theorem f39.s2.desOK : ∀ α y (k : Ex → VS → Option α), f39.s2.des α y k = k (f39.s2.out y).1 (f39.s2.out y).2 := (fun _ _ _ => rfl)
def f39.s2.inY : Ex → VS → Option (List Int × List Int)
  | .exit 2, ⟨[(4, .ptr 0 0), (6, .ptr 1 0)], [(0, ([.ints .u64 4 b0], 24, .norm)), (1, ([.ints .u64 4 b1], 24, .norm))], 2⟩ => some (b0, b1)
  | _, _ => none
def f39.lp (K : Nat) : Nat → Option (Hint × Summ) := tabLp [(0, f39.s0.h, summOf (iter (f39.s0 K) K) f39.s0.inX f39.s0.des), (2, f39.s2.h, summOf (iter (f39.s2 K) K) f39.s2.inX f39.s2.des)]
noncomputable def f39.tab (K : Nat) : List (Nat × Entry) := [(33, (f33.E K)), (41, (f41.E K))]
theorem f39.tabOK (K : Nat) : SpecOK Try.prog (tabSp (f39.tab K)) := tab_ok ((tab_cons (f33.ok K) (tab_cons (f41.ok K) tab_nil)))
theorem f39.s0.eq (K : Nat) (rec : Int × Int × List Int × List Int → Option (Int × List Int × List Int)) (x : Int × Int × List Int × List Int) : f39.s0 K rec x = roundL (getA tys) (tabSp (f39.tab K)) 49 0 (f39.lp K) 400 f39.s0.b f39.s0.h f39.s0.ho f39.s0.shp f39.s0.inX f39.s0.inY rec x := by kernel_rfl
theorem f39.s0.lok (K : Nat) : LoopsOK Try.prog 49 0 (f39.lp K) f39.s0.b := loops_ok (by
  have h : loopsIn (f39.lp K) f39.s0.b = [] := by kernel_rfl
  rw [h]; simp)
theorem f39.s0.ok (K : Nat) : SummOK Try.prog 49 0 (summOf (iter (f39.s0 K) K) f39.s0.inX f39.s0.des) f39.s0.b :=
  loop_ok mix tys_ok (f39.tabOK K) (h := f39.s0.h) (ho := f39.s0.ho) (shp := f39.s0.shp) (inX := f39.s0.inX) (des := f39.s0.des) (out := f39.s0.out) (inY := f39.s0.inY) (fuel := 400)
    (by intro st x h; unfold f39.s0.inX at h; split at h <;> simp at h; subst h; rfl)
    (by intro e st y h; unfold f39.s0.inY at h; split at h <;> simp at h <;> subst h <;> rfl)
    f39.s0.desOK (f39.s0.lok K) (f39.s0 K) (f39.s0.eq K) K
theorem f39.s2.eq (K : Nat) (rec : Int × Int × List Int × List Int × List Int → Option (List Int × List Int)) (x : Int × Int × List Int × List Int × List Int) : f39.s2 K rec x = roundL (getA tys) (tabSp (f39.tab K)) 49 0 (f39.lp K) 400 f39.s2.b f39.s2.h f39.s2.ho f39.s2.shp f39.s2.inX f39.s2.inY rec x := by kernel_rfl
theorem f39.s2.lok (K : Nat) : LoopsOK Try.prog 49 0 (f39.lp K) f39.s2.b := loops_ok (by
  have h : loopsIn (f39.lp K) f39.s2.b = [] := by kernel_rfl
  rw [h]; simp)
theorem f39.s2.ok (K : Nat) : SummOK Try.prog 49 0 (summOf (iter (f39.s2 K) K) f39.s2.inX f39.s2.des) f39.s2.b :=
  loop_ok mix tys_ok (f39.tabOK K) (h := f39.s2.h) (ho := f39.s2.ho) (shp := f39.s2.shp) (inX := f39.s2.inX) (des := f39.s2.des) (out := f39.s2.out) (inY := f39.s2.inY) (fuel := 400)
    (by intro st x h; unfold f39.s2.inX at h; split at h <;> simp at h; subst h; rfl)
    (by intro e st y h; unfold f39.s2.inY at h; split at h <;> simp at h <;> subst h <;> rfl)
    f39.s2.desOK (f39.s2.lok K) (f39.s2 K) (f39.s2.eq K) K
theorem f39.loops (K : Nat) : LoopsOK Try.prog 49 0 (f39.lp K) f39.c := loops_ok (by
  have h : loopsIn (f39.lp K) f39.c = [(0, f39.s0.b), (2, f39.s2.b)] := by kernel_rfl
  rw [h]
  intro p hp
  simp only [List.mem_cons, List.not_mem_nil, or_false] at hp
  rcases hp with rfl | rfl
  · exact ⟨_, rfl, (f39.s0.ok K)⟩
  · exact ⟨_, rfl, (f39.s2.ok K)⟩)
def f39.T (K : Nat) (a0 : List Int) (a1 : Int) : Option (List Int) :=
  bif (decide (a1 > 256)) then
    some ([0, 0, 0, 0])
  else
    bif (decide (a1 < (-256))) then
      some ([0, 0, 0, 0])
    else
      (iter (f39.s0 K) K (a1, 0, a0, [0, 0, 0, 0])).bind fun y6 =>
      bif (decide (y6.1 ≥ 0)) then
        some y6.2.1
      else
        (iter (f39.s2 K) K (y6.1, 255, y6.2.1, y6.2.2, [0, 0, 0, 0])).bind fun y16 =>
        some y16.2
def f39.F (K : Nat) (x : List Int × Int) : Option (List Int) := f39.T K x.1 x.2
def f39.av (x : List Int × Int) : List VV := [.agg [.ints .u64 4 x.1], .int .i64 x.2]
def f39.bl (_x : List Int × Int) : List (Nat × Blk) := []
def f39.inA : VS → Option (List Int × Int)
  | ⟨[(0, .agg [.ints .u64 4 a0]), (1, .int .i64 a1)], [], 0⟩ => some (a0, a1)
  | _ => none
def f39.o0 (y : List Int) : VS := ⟨[(0, .agg [.ints .u64 4 y])], [], 0⟩
def f39.des : ∀ α : Type, (List Int) → (VS → Option α) → Option α := (dv1 f39.o0)
def f39.out : List Int → VS := f39.o0
def f39.inR : VS → Option (List Int)
  | ⟨[(0, .agg [.ints .u64 4 y])], [], 0⟩ => some y
  | _ => none
noncomputable def f39.E (K : Nat) : Entry := genE 0 f39.inA (f39.F K) f39.des
theorem f39.eq (K : Nat) (x : List Int × Int) : f39.F K x = xrun (getA tys) (tabSp (f39.tab K)) Try.f39.ntmps 0 (f39.lp K) 400 f39.c ⟨initL 0 (f39.av x), f39.bl x, 0⟩ (contF (getA tys) 0 Try.f39.results.toList f39.inR) := by kernel_rfl
theorem f39.ok (K : Nat) : EntryOK Try.prog 39 (f39.E K) :=
  gen_ok mix tys_ok (f39.tabOK K) Try.func39 (by kernel_rfl : Try.f39.body = some f39.c) (by kernel_rfl) (f39.loops K) (av := f39.av) (bl := f39.bl) (out := f39.out) (fuel := 400)
    (by intro s x h; unfold f39.inA at h; split at h <;> simp at h; subst h; rfl) (fun _ => Nat.le_of_ble_eq_true rfl)
    (by intro s y h; unfold f39.inR at h; split at h <;> simp at h <;> subst h <;> rfl) (fun _ _ _ => rfl) (f39.eq K)
end Go.Proofs

namespace Go.Proofs
open Go.VM
/-! ### burrow/limbs.Bit -/
noncomputable def f40.c : Code := bodyOf Try.f40
def f40.lp (_ : Nat) : Nat → Option (Hint × Summ) := fun _ => none
noncomputable def f40.tab (K : Nat) : List (Nat × Entry) := [(92, (f92.E K))]
theorem f40.tabOK (K : Nat) : SpecOK Try.prog (tabSp (f40.tab K)) := tab_ok ((tab_cons (f92.ok K) tab_nil))
theorem f40.loops (K : Nat) : LoopsOK Try.prog 17 0 (f40.lp K) f40.c := loops_ok (by
  have h : loopsIn (f40.lp K) f40.c = [] := by kernel_rfl
  rw [h]; simp)
def f40.T (K : Nat) (a0 : List Int) (a1 : Int) : Option (Int) :=
  bif (decide ((IntKind.wrap .u64 a1) ≥ 256)) then
    some (0)
  else
    (f92.F K a0).bind fun y3 =>
    let v4 := IntKind.wrap .i64 (Int.tdiv a1 32)
    bif decide (0 ≤ v4 ∧ v4 < 8) then
      let v6 := Int.tmod a1 32
      bif decide (0 ≤ v6) then
        some (bits .and .u64 (shiftI .shr .u64 (List.getD y3 (Int.toNat v4) 0) v6) 1)
      else
        none
    else
      none
def f40.F (K : Nat) (x : List Int × Int) : Option (Int) := f40.T K x.1 x.2
def f40.av (x : List Int × Int) : List VV := [.agg [.ints .u64 4 x.1], .int .i64 x.2]
def f40.bl (_x : List Int × Int) : List (Nat × Blk) := []
def f40.inA : VS → Option (List Int × Int)
  | ⟨[(0, .agg [.ints .u64 4 a0]), (1, .int .i64 a1)], [], 0⟩ => some (a0, a1)
  | _ => none
def f40.o0 (y : Int) : VS := ⟨[(0, .int .u64 y)], [], 0⟩
def f40.des : ∀ α : Type, Int → (VS → Option α) → Option α := (dv1 f40.o0)
def f40.out : Int → VS := f40.o0
def f40.inR : VS → Option (Int)
  | ⟨[(0, .int .u64 y)], [], 0⟩ => some y
  | _ => none
noncomputable def f40.E (K : Nat) : Entry := genE 0 f40.inA (f40.F K) f40.des
theorem f40.eq (K : Nat) (x : List Int × Int) : f40.F K x = xrun (getA tys) (tabSp (f40.tab K)) Try.f40.ntmps 0 (f40.lp K) 400 f40.c ⟨initL 0 (f40.av x), f40.bl x, 0⟩ (contF (getA tys) 0 Try.f40.results.toList f40.inR) := by kernel_rfl
theorem f40.ok (K : Nat) : EntryOK Try.prog 40 (f40.E K) :=
  gen_ok mix tys_ok (f40.tabOK K) Try.func40 (by kernel_rfl : Try.f40.body = some f40.c) (by kernel_rfl) (f40.loops K) (av := f40.av) (bl := f40.bl) (out := f40.out) (fuel := 400)
    (by intro s x h; unfold f40.inA at h; split at h <;> simp at h; subst h; rfl) (fun _ => Nat.le_of_ble_eq_true rfl)
    (by intro s y h; unfold f40.inR at h; split at h <;> simp at h <;> subst h <;> rfl) (fun _ _ _ => rfl) (f40.eq K)
end Go.Proofs

namespace Go.Proofs
open Go.VM
/-! ### burrow/limbs.Bits -/
noncomputable def f42.c : Code := bodyOf Try.f42
def f42.s2t (_K : Nat) (rec : Int × Int × Int × Int × List Int × Int → Option (Int × List Int × Int)) (t2 : Int) (t3 : Int) (t4 : Int) (t5 : Int) (t7 : List Int) (t8 : Int) : Option (Int × List Int × Int) :=
  bif decide (0 ≤ t5) then
    bif (decide ((shiftI .shr .u64 t4 t5) > 0)) then
      rec ((IntKind.wrap .i64 ((IntKind.wrap .i64 ((IntKind.wrap .i64 (32 * t3)) + t5)) + 1)), t3, t4, (IntKind.wrap .i64 (t5 + 1)), t7, t8)
    else
      some (t2, t7, t8)
  else
    none
def f42.s2 (K : Nat) (rec : Int × Int × Int × Int × List Int × Int → Option (Int × List Int × Int)) (x : Int × Int × Int × Int × List Int × Int) : Option (Int × List Int × Int) := f42.s2t K rec x.1 x.2.1 x.2.2.1 x.2.2.2.1 x.2.2.2.2.1 x.2.2.2.2.2
noncomputable def f42.s2.b : Code := (findLoop 2 f42.c).getD .skip
def f42.s2.h : Hint := { lv := [2, 3, 4, 5, 7, 8] }
def f42.s2.ho : Hint := { lv := [2, 7, 8] }
def f42.s2.shp (x : Int × Int × Int × Int × List Int × Int) : VS := ⟨[(2, .int .i64 x.1), (3, .int .i64 x.2.1), (4, .int .u64 x.2.2.1), (5, .int .i64 x.2.2.2.1), (7, .agg [.ints .u64 8 x.2.2.2.2.1]), (8, .int .i64 x.2.2.2.2.2)], [], 0⟩
def f42.s2.inX : VS → Option (Int × Int × Int × Int × List Int × Int)
  | ⟨[(2, .int .i64 t2), (3, .int .i64 t3), (4, .int .u64 t4), (5, .int .i64 t5), (7, .agg [.ints .u64 8 t7]), (8, .int .i64 t8)], [], 0⟩ => some (t2, t3, t4, t5, t7, t8)
  | _ => none
def f42.s2.o0 (y : Int × List Int × Int) : VS := ⟨[(2, .int .i64 y.1), (7, .agg [.ints .u64 8 y.2.1]), (8, .int .i64 y.2.2)], [], 0⟩
def f42.s2.des : ∀ α : Type, (Int × List Int × Int) → (Ex → VS → Option α) → Option α := (des1 (.exit 2) f42.s2.o0)
def f42.s2.out : Int × List Int × Int → Ex × VS := (fun y => (.exit 2, f42.s2.o0 y))
theorem f42.s2.desOK : ∀ α y (k : Ex → VS → Option α), f42.s2.des α y k = k (f42.s2.out y).1 (f42.s2.out y).2 := (fun _ _ _ => rfl)
def f42.s2.inY : Ex → VS → Option (Int × List Int × Int)
  | .exit 2, ⟨[(2, .int .i64 t2), (7, .agg [.ints .u64 8 t7]), (8, .int .i64 t8)], [], 0⟩ => some (t2, t7, t8)
  | _, _ => none
def f42.s0t (K : Nat) (rec : Int × List Int × Int → Option (Int)) (t2 : Int) (t7 : List Int) (t8 : Int) : Option (Int) :=
  bif (decide (t8 < 8)) then
    bif decide (0 ≤ t8 ∧ t8 < 8) then
      (iter (f42.s2 K) K (t2, t8, (List.getD t7 (Int.toNat t8) 0), 0, t7, t8)).bind fun y10 =>
      rec (y10.1, y10.2.1, (IntKind.wrap .i64 (y10.2.2 + 1)))
    else
      none
  else
    some t2
def f42.s0 (K : Nat) (rec : Int × List Int × Int → Option (Int)) (x : Int × List Int × Int) : Option (Int) := f42.s0t K rec x.1 x.2.1 x.2.2
noncomputable def f42.s0.b : Code := (findLoop 0 f42.c).getD .skip
def f42.s0.h : Hint := { lv := [2, 7, 8] }
def f42.s0.ho : Hint := { lv := [2] }
def f42.s0.shp (x : Int × List Int × Int) : VS := ⟨[(2, .int .i64 x.1), (7, .agg [.ints .u64 8 x.2.1]), (8, .int .i64 x.2.2)], [], 0⟩
def f42.s0.inX : VS → Option (Int × List Int × Int)
  | ⟨[(2, .int .i64 t2), (7, .agg [.ints .u64 8 t7]), (8, .int .i64 t8)], [], 0⟩ => some (t2, t7, t8)
  | _ => none
def f42.s0.o0 (y : Int) : VS := ⟨[(2, .int .i64 y)], [], 0⟩
def f42.s0.des : ∀ α : Type, Int → (Ex → VS → Option α) → Option α := (des1 (.exit 0) f42.s0.o0)
def f42.s0.out : Int → Ex × VS := (fun y => (.exit 0, f42.s0.o0 y))
theorem f42.s0.desOK : ∀ α y (k : Ex → VS → Option α), f42.s0.des α y k = k (f42.s0.out y).1 (f42.s0.out y).2 := (fun _ _ _ => rfl)
def f42.s0.inY : Ex → VS → Option (Int)
  | .exit 0, ⟨[(2, .int .i64 t2)], [], 0⟩ => some t2
  | _, _ => none
def f42.lp (K : Nat) : Nat → Option (Hint × Summ) := tabLp [(2, f42.s2.h, summOf (iter (f42.s2 K) K) f42.s2.inX f42.s2.des), (0, f42.s0.h, summOf (iter (f42.s0 K) K) f42.s0.inX f42.s0.des)]
noncomputable def f42.tab (K : Nat) : List (Nat × Entry) := [(92, (f92.E K))]
theorem f42.tabOK (K : Nat) : SpecOK Try.prog (tabSp (f42.tab K)) := tab_ok ((tab_cons (f92.ok K) tab_nil))
theorem f42.s2.eq (K : Nat) (rec : Int × Int × Int × Int × List Int × Int → Option (Int × List Int × Int)) (x : Int × Int × Int × Int × List Int × Int) : f42.s2 K rec x = roundL (getA tys) (tabSp (f42.tab K)) 25 0 (f42.lp K) 400 f42.s2.b f42.s2.h f42.s2.ho f42.s2.shp f42.s2.inX f42.s2.inY rec x := by kernel_rfl
theorem f42.s2.lok (K : Nat) : LoopsOK Try.prog 25 0 (f42.lp K) f42.s2.b := loops_ok (by
  have h : loopsIn (f42.lp K) f42.s2.b = [] := by kernel_rfl
  rw [h]; simp)
theorem f42.s2.ok (K : Nat) : SummOK Try.prog 25 0 (summOf (iter (f42.s2 K) K) f42.s2.inX f42.s2.des) f42.s2.b :=
  loop_ok mix tys_ok (f42.tabOK K) (h := f42.s2.h) (ho := f42.s2.ho) (shp := f42.s2.shp) (inX := f42.s2.inX) (des := f42.s2.des) (out := f42.s2.out) (inY := f42.s2.inY) (fuel := 400)
    (by intro st x h; unfold f42.s2.inX at h; split at h <;> simp at h; subst h; rfl)
    (by intro e st y h; unfold f42.s2.inY at h; split at h <;> simp at h <;> subst h <;> rfl)
    f42.s2.desOK (f42.s2.lok K) (f42.s2 K) (f42.s2.eq K) K
theorem f42.s0.eq (K : Nat) (rec : Int × List Int × Int → Option (Int)) (x : Int × List Int × Int) : f42.s0 K rec x = roundL (getA tys) (tabSp (f42.tab K)) 25 0 (f42.lp K) 400 f42.s0.b f42.s0.h f42.s0.ho f42.s0.shp f42.s0.inX f42.s0.inY rec x := by kernel_rfl
theorem f42.s0.lok (K : Nat) : LoopsOK Try.prog 25 0 (f42.lp K) f42.s0.b := loops_ok (by
  have h : loopsIn (f42.lp K) f42.s0.b = [(2, f42.s2.b)] := by kernel_rfl
  rw [h]
  intro p hp
  simp only [List.mem_cons, List.not_mem_nil, or_false] at hp
  rcases hp with rfl
  · exact ⟨_, rfl, (f42.s2.ok K)⟩)
theorem f42.s0.ok (K : Nat) : SummOK Try.prog 25 0 (summOf (iter (f42.s0 K) K) f42.s0.inX f42.s0.des) f42.s0.b :=
  loop_ok mix tys_ok (f42.tabOK K) (h := f42.s0.h) (ho := f42.s0.ho) (shp := f42.s0.shp) (inX := f42.s0.inX) (des := f42.s0.des) (out := f42.s0.out) (inY := f42.s0.inY) (fuel := 400)
    (by intro st x h; unfold f42.s0.inX at h; split at h <;> simp at h; subst h; rfl)
    (by intro e st y h; unfold f42.s0.inY at h; split at h <;> simp at h <;> subst h <;> rfl)
    f42.s0.desOK (f42.s0.lok K) (f42.s0 K) (f42.s0.eq K) K
theorem f42.loops (K : Nat) : LoopsOK Try.prog 25 0 (f42.lp K) f42.c := loops_ok (by
  have h : loopsIn (f42.lp K) f42.c = [(0, f42.s0.b), (2, f42.s2.b)] := by kernel_rfl
  rw [h]
  intro p hp
  simp only [List.mem_cons, List.not_mem_nil, or_false] at hp
  rcases hp with rfl | rfl
  · exact ⟨_, rfl, (f42.s0.ok K)⟩
  · exact ⟨_, rfl, (f42.s2.ok K)⟩)
def f42.T (K : Nat) (a0 : List Int) : Option (Int) :=
  (f92.F K a0).bind fun y1 =>
  (iter (f42.s0 K) K (0, y1, 0)).bind fun y12 =>
  some y12
def f42.F (K : Nat) (x : List Int) : Option (Int) := f42.T K x
def f42.av (x : List Int) : List VV := [.agg [.ints .u64 4 x]]
def f42.bl (_x : List Int) : List (Nat × Blk) := []
def f42.inA : VS → Option (List Int)
  | ⟨[(0, .agg [.ints .u64 4 a0])], [], 0⟩ => some a0
  | _ => none
def f42.o0 (y : Int) : VS := ⟨[(0, .int .i64 y)], [], 0⟩
def f42.des : ∀ α : Type, Int → (VS → Option α) → Option α := (dv1 f42.o0)
def f42.out : Int → VS := f42.o0
def f42.inR : VS → Option (Int)
  | ⟨[(0, .int .i64 y)], [], 0⟩ => some y
  | _ => none
noncomputable def f42.E (K : Nat) : Entry := genE 0 f42.inA (f42.F K) f42.des
theorem f42.eq (K : Nat) (x : List Int) : f42.F K x = xrun (getA tys) (tabSp (f42.tab K)) Try.f42.ntmps 0 (f42.lp K) 400 f42.c ⟨initL 0 (f42.av x), f42.bl x, 0⟩ (contF (getA tys) 0 Try.f42.results.toList f42.inR) := by kernel_rfl
theorem f42.ok (K : Nat) : EntryOK Try.prog 42 (f42.E K) :=
  gen_ok mix tys_ok (f42.tabOK K) Try.func42 (by kernel_rfl : Try.f42.body = some f42.c) (by kernel_rfl) (f42.loops K) (av := f42.av) (bl := f42.bl) (out := f42.out) (fuel := 400)
    (by intro s x h; unfold f42.inA at h; split at h <;> simp at h; subst h; rfl) (fun _ => Nat.le_of_ble_eq_true rfl)
    (by intro s y h; unfold f42.inR at h; split at h <;> simp at h <;> subst h <;> rfl) (fun _ _ _ => rfl) (f42.eq K)
end Go.Proofs

namespace Go.Proofs
open Go.VM
/-! ### burrow/burrowref02.Bits -/
noncomputable def f43.c : Code := bodyOf Try.f43
def f43.s0t (K : Nat) (rec : Int × List Int → Option (Int)) (t3 : Int) (b0 : List Int) : Option (Int) :=
  bif (decide (t3 > 0)) then
    (f41.F K (b0, (IntKind.wrap .i64 (t3 - 1)))).bind fun y3 =>
    bif (y3 == 0) then
      rec ((IntKind.wrap .i64 (t3 - 1)), b0)
    else
      some t3
  else
    some t3
def f43.s0 (K : Nat) (rec : Int × List Int → Option (Int)) (x : Int × List Int) : Option (Int) := f43.s0t K rec x.1 x.2
noncomputable def f43.s0.b : Code := (findLoop 0 f43.c).getD .skip
def f43.s0.h : Hint := { lv := [1, 3] }
def f43.s0.ho : Hint := { lv := [3] }
def f43.s0.shp (x : Int × List Int) : VS := ⟨[(1, .ptr 0 0), (3, .int .i64 x.1)], [(0, ([.ints .u64 4 x.2], 24, .norm))], 1⟩
def f43.s0.inX : VS → Option (Int × List Int)
  | ⟨[(1, .ptr 0 0), (3, .int .i64 t3)], [(0, ([.ints .u64 4 b0], 24, .norm))], 1⟩ => some (t3, b0)
  | _ => none
def f43.s0.o0 (y : Int) : VS := ⟨[(3, .int .i64 y)], [], 0⟩
def f43.s0.des : ∀ α : Type, Int → (Ex → VS → Option α) → Option α := (des1 (.exit 0) f43.s0.o0)
def f43.s0.out : Int → Ex × VS := (fun y => (.exit 0, f43.s0.o0 y))
theorem f43.s0.desOK : ∀ α y (k : Ex → VS → Option α), f43.s0.des α y k = k (f43.s0.out y).1 (f43.s0.out y).2 := (fun _ _ _ => rfl)
def f43.s0.inY : Ex → VS → Option (Int)
  | .exit 0, ⟨[(3, .int .i64 t3)], [], 0⟩ => some t3
  | _, _ => none
def f43.lp (K : Nat) : Nat → Option (Hint × Summ) := tabLp [(0, f43.s0.h, summOf (iter (f43.s0 K) K) f43.s0.inX f43.s0.des)]
noncomputable def f43.tab (K : Nat) : List (Nat × Entry) := [(41, (f41.E K))]
theorem f43.tabOK (K : Nat) : SpecOK Try.prog (tabSp (f43.tab K)) := tab_ok ((tab_cons (f41.ok K) tab_nil))
theorem f43.s0.eq (K : Nat) (rec : Int × List Int → Option (Int)) (x : Int × List Int) : f43.s0 K rec x = roundL (getA tys) (tabSp (f43.tab K)) 16 0 (f43.lp K) 400 f43.s0.b f43.s0.h f43.s0.ho f43.s0.shp f43.s0.inX f43.s0.inY rec x := by kernel_rfl
theorem f43.s0.lok (K : Nat) : LoopsOK Try.prog 16 0 (f43.lp K) f43.s0.b := loops_ok (by
  have h : loopsIn (f43.lp K) f43.s0.b = [] := by kernel_rfl
  rw [h]; simp)
theorem f43.s0.ok (K : Nat) : SummOK Try.prog 16 0 (summOf (iter (f43.s0 K) K) f43.s0.inX f43.s0.des) f43.s0.b :=
  loop_ok mix tys_ok (f43.tabOK K) (h := f43.s0.h) (ho := f43.s0.ho) (shp := f43.s0.shp) (inX := f43.s0.inX) (des := f43.s0.des) (out := f43.s0.out) (inY := f43.s0.inY) (fuel := 400)
    (by intro st x h; unfold f43.s0.inX at h; split at h <;> simp at h; subst h; rfl)
    (by intro e st y h; unfold f43.s0.inY at h; split at h <;> simp at h <;> subst h <;> rfl)
    f43.s0.desOK (f43.s0.lok K) (f43.s0 K) (f43.s0.eq K) K
theorem f43.loops (K : Nat) : LoopsOK Try.prog 16 0 (f43.lp K) f43.c := loops_ok (by
  have h : loopsIn (f43.lp K) f43.c = [(0, f43.s0.b)] := by kernel_rfl
  rw [h]
  intro p hp
  simp only [List.mem_cons, List.not_mem_nil, or_false] at hp
  rcases hp with rfl
  · exact ⟨_, rfl, (f43.s0.ok K)⟩)
def f43.T (K : Nat) (a0 : List Int) : Option (Int) :=
  (iter (f43.s0 K) K (256, a0)).bind fun y5 =>
  some y5
def f43.F (K : Nat) (x : List Int) : Option (Int) := f43.T K x
def f43.av (x : List Int) : List VV := [.agg [.ints .u64 4 x]]
def f43.bl (_x : List Int) : List (Nat × Blk) := []
def f43.inA : VS → Option (List Int)
  | ⟨[(0, .agg [.ints .u64 4 a0])], [], 0⟩ => some a0
  | _ => none
def f43.o0 (y : Int) : VS := ⟨[(0, .int .i64 y)], [], 0⟩
def f43.des : ∀ α : Type, Int → (VS → Option α) → Option α := (dv1 f43.o0)
def f43.out : Int → VS := f43.o0
def f43.inR : VS → Option (Int)
  | ⟨[(0, .int .i64 y)], [], 0⟩ => some y
  | _ => none
noncomputable def f43.E (K : Nat) : Entry := genE 0 f43.inA (f43.F K) f43.des
theorem f43.eq (K : Nat) (x : List Int) : f43.F K x = xrun (getA tys) (tabSp (f43.tab K)) Try.f43.ntmps 0 (f43.lp K) 400 f43.c ⟨initL 0 (f43.av x), f43.bl x, 0⟩ (contF (getA tys) 0 Try.f43.results.toList f43.inR) := by kernel_rfl
theorem f43.ok (K : Nat) : EntryOK Try.prog 43 (f43.E K) :=
  gen_ok mix tys_ok (f43.tabOK K) Try.func43 (by kernel_rfl : Try.f43.body = some f43.c) (by kernel_rfl) (f43.loops K) (av := f43.av) (bl := f43.bl) (out := f43.out) (fuel := 400)
    (by intro s x h; unfold f43.inA at h; split at h <;> simp at h; subst h; rfl) (fun _ => Nat.le_of_ble_eq_true rfl)
    (by intro s y h; unfold f43.inR at h; split at h <;> simp at h <;> subst h <;> rfl) (fun _ _ _ => rfl) (f43.eq K)
end Go.Proofs

namespace Go.Proofs
open Go.VM
/-! ### burrow/limbs.Cmp -/
noncomputable def f44.c : Code := bodyOf Try.f44
def f44.s0t (_K : Nat) (rec : Int × List Int × List Int → Option (Int × List Int × List Int)) (t7 : Int) (b0 : List Int) (b1 : List Int) : Option (Int × List Int × List Int) :=
  bif decide (0 ≤ t7 ∧ t7 < 8) then
    bif decide (0 ≤ t7 ∧ t7 < 8) then
      bif ((List.getD b0 (Int.toNat t7) 0) == (List.getD b1 (Int.toNat t7) 0)) then
        rec ((IntKind.wrap .i64 (t7 - 1)), b0, b1)
      else
        some (t7, b0, b1)
    else
      none
  else
    none
def f44.s0 (K : Nat) (rec : Int × List Int × List Int → Option (Int × List Int × List Int)) (x : Int × List Int × List Int) : Option (Int × List Int × List Int) := f44.s0t K rec x.1 x.2.1 x.2.2
noncomputable def f44.s0.b : Code := (findLoop 0 f44.c).getD .skip
def f44.s0.h : Hint := { lv := [5, 6, 7] }
def f44.s0.ho : Hint := { lv := [5, 6, 7] }
def f44.s0.shp (x : Int × List Int × List Int) : VS := ⟨[(5, .ptr 0 0), (6, .ptr 1 0), (7, .int .i64 x.1)], [(0, ([.ints .u64 8 x.2.1], 78, .norm)), (1, ([.ints .u64 8 x.2.2], 78, .norm))], 2⟩
def f44.s0.inX : VS → Option (Int × List Int × List Int)
  | ⟨[(5, .ptr 0 0), (6, .ptr 1 0), (7, .int .i64 t7)], [(0, ([.ints .u64 8 b0], 78, .norm)), (1, ([.ints .u64 8 b1], 78, .norm))], 2⟩ => some (t7, b0, b1)
  | _ => none
def f44.s0.o0 (y : Int × List Int × List Int) : VS := ⟨[(5, .ptr 0 0), (6, .ptr 1 0), (7, .int .i64 y.1)], [(0, ([.ints .u64 8 y.2.1], 78, .norm)), (1, ([.ints .u64 8 y.2.2], 78, .norm))], 2⟩
def f44.s0.des : ∀ α : Type, (Int × List Int × List Int) → (Ex → VS → Option α) → Option α := (des1 (.exit 0) f44.s0.o0)
def f44.s0.out : Int × List Int × List Int → Ex × VS := (fun y => (.exit 0, f44.s0.o0 y))
theorem f44.s0.desOK : ∀ α y (k : Ex → VS → Option α), f44.s0.des α y k = k (f44.s0.out y).1 (f44.s0.out y).2 := (fun _ _ _ => rfl)
def f44.s0.inY : Ex → VS → Option (Int × List Int × List Int)
  | .exit 0, ⟨[(5, .ptr 0 0), (6, .ptr 1 0), (7, .int .i64 t7)], [(0, ([.ints .u64 8 b0], 78, .norm)), (1, ([.ints .u64 8 b1], 78, .norm))], 2⟩ => some (t7, b0, b1)
  | _, _ => none
def f44.lp (K : Nat) : Nat → Option (Hint × Summ) := tabLp [(0, f44.s0.h, summOf (iter (f44.s0 K) K) f44.s0.inX f44.s0.des)]
noncomputable def f44.tab (K : Nat) : List (Nat × Entry) := [(92, (f92.E K))]
theorem f44.tabOK (K : Nat) : SpecOK Try.prog (tabSp (f44.tab K)) := tab_ok ((tab_cons (f92.ok K) tab_nil))
theorem f44.s0.eq (K : Nat) (rec : Int × List Int × List Int → Option (Int × List Int × List Int)) (x : Int × List Int × List Int) : f44.s0 K rec x = roundL (getA tys) (tabSp (f44.tab K)) 31 0 (f44.lp K) 400 f44.s0.b f44.s0.h f44.s0.ho f44.s0.shp f44.s0.inX f44.s0.inY rec x := by kernel_rfl
theorem f44.s0.lok (K : Nat) : LoopsOK Try.prog 31 0 (f44.lp K) f44.s0.b := loops_ok (by
  have h : loopsIn (f44.lp K) f44.s0.b = [] := by kernel_rfl
  rw [h]; simp)
theorem f44.s0.ok (K : Nat) : SummOK Try.prog 31 0 (summOf (iter (f44.s0 K) K) f44.s0.inX f44.s0.des) f44.s0.b :=
  loop_ok mix tys_ok (f44.tabOK K) (h := f44.s0.h) (ho := f44.s0.ho) (shp := f44.s0.shp) (inX := f44.s0.inX) (des := f44.s0.des) (out := f44.s0.out) (inY := f44.s0.inY) (fuel := 400)
    (by intro st x h; unfold f44.s0.inX at h; split at h <;> simp at h; subst h; rfl)
    (by intro e st y h; unfold f44.s0.inY at h; split at h <;> simp at h <;> subst h <;> rfl)
    f44.s0.desOK (f44.s0.lok K) (f44.s0 K) (f44.s0.eq K) K
theorem f44.loops (K : Nat) : LoopsOK Try.prog 31 0 (f44.lp K) f44.c := loops_ok (by
  have h : loopsIn (f44.lp K) f44.c = [(0, f44.s0.b)] := by kernel_rfl
  rw [h]
  intro p hp
  simp only [List.mem_cons, List.not_mem_nil, or_false] at hp
  rcases hp with rfl
  · exact ⟨_, rfl, (f44.s0.ok K)⟩)
def f44.T (K : Nat) (a0 : List Int) (a1 : List Int) : Option (Int) :=
  (f92.F K a0).bind fun y1 =>
  (f92.F K a1).bind fun y2 =>
  bif (eqL 8 y1 y2 && true) then
    some (0)
  else
    (iter (f44.s0 K) K (7, y1, y2)).bind fun y9 =>
    bif decide (0 ≤ y9.1 ∧ y9.1 < 8) then
      bif decide (0 ≤ y9.1 ∧ y9.1 < 8) then
        bif (decide ((List.getD y9.2.1 (Int.toNat y9.1) 0) < (List.getD y9.2.2 (Int.toNat y9.1) 0))) then
          some (-1)
        else
          some (1)
      else
        none
    else
      none
def f44.F (K : Nat) (x : List Int × List Int) : Option (Int) := f44.T K x.1 x.2
def f44.av (x : List Int × List Int) : List VV := [.agg [.ints .u64 4 x.1], .agg [.ints .u64 4 x.2]]
def f44.bl (_x : List Int × List Int) : List (Nat × Blk) := []
def f44.inA : VS → Option (List Int × List Int)
  | ⟨[(0, .agg [.ints .u64 4 a0]), (1, .agg [.ints .u64 4 a1])], [], 0⟩ => some (a0, a1)
  | _ => none
def f44.o0 (y : Int) : VS := ⟨[(0, .int .i64 y)], [], 0⟩
def f44.des : ∀ α : Type, Int → (VS → Option α) → Option α := (dv1 f44.o0)
def f44.out : Int → VS := f44.o0
def f44.inR : VS → Option (Int)
  | ⟨[(0, .int .i64 y)], [], 0⟩ => some y
  | _ => none
noncomputable def f44.E (K : Nat) : Entry := genE 0 f44.inA (f44.F K) f44.des
theorem f44.eq (K : Nat) (x : List Int × List Int) : f44.F K x = xrun (getA tys) (tabSp (f44.tab K)) Try.f44.ntmps 0 (f44.lp K) 400 f44.c ⟨initL 0 (f44.av x), f44.bl x, 0⟩ (contF (getA tys) 0 Try.f44.results.toList f44.inR) := by kernel_rfl
theorem f44.ok (K : Nat) : EntryOK Try.prog 44 (f44.E K) :=
  gen_ok mix tys_ok (f44.tabOK K) Try.func44 (by kernel_rfl : Try.f44.body = some f44.c) (by kernel_rfl) (f44.loops K) (av := f44.av) (bl := f44.bl) (out := f44.out) (fuel := 400)
    (by intro s x h; unfold f44.inA at h; split at h <;> simp at h; subst h; rfl) (fun _ => Nat.le_of_ble_eq_true rfl)
    (by intro s y h; unfold f44.inR at h; split at h <;> simp at h <;> subst h <;> rfl) (fun _ _ _ => rfl) (f44.eq K)
end Go.Proofs

namespace Go.Proofs
open Go.VM
/-! ### burrow/burrowref02.Cmp -/
noncomputable def f45.c : Code := bodyOf Try.f45
def f45.s0t (_K : Nat) (rec : Int × Int × List Int × List Int → Option (Int)) (t5 : Int) (t6 : Int) (b0 : List Int) (b1 : List Int) : Option (Int) :=
  bif (decide (t6 < 4)) then
    bif decide (0 ≤ t6 ∧ t6 < 4) then
      bif decide (0 ≤ t6 ∧ t6 < 4) then
        bif (decide ((List.getD b0 (Int.toNat t6) 0) < (List.getD b1 (Int.toNat t6) 0))) then
          bif decide (0 ≤ t6 ∧ t6 < 4) then
            bif decide (0 ≤ t6 ∧ t6 < 4) then
              bif (decide ((List.getD b0 (Int.toNat t6) 0) > (List.getD b1 (Int.toNat t6) 0))) then
                rec (1, (IntKind.wrap .i64 (t6 + 1)), b0, b1)
              else
                rec ((-1), (IntKind.wrap .i64 (t6 + 1)), b0, b1)
            else
              none
          else
            none
        else
          bif decide (0 ≤ t6 ∧ t6 < 4) then
            bif decide (0 ≤ t6 ∧ t6 < 4) then
              bif (decide ((List.getD b0 (Int.toNat t6) 0) > (List.getD b1 (Int.toNat t6) 0))) then
                rec (1, (IntKind.wrap .i64 (t6 + 1)), b0, b1)
              else
                rec (t5, (IntKind.wrap .i64 (t6 + 1)), b0, b1)
            else
              none
          else
            none
      else
        none
    else
      none
  else
    some t5
def f45.s0 (K : Nat) (rec : Int × Int × List Int × List Int → Option (Int)) (x : Int × Int × List Int × List Int) : Option (Int) := f45.s0t K rec x.1 x.2.1 x.2.2.1 x.2.2.2
noncomputable def f45.s0.b : Code := (findLoop 0 f45.c).getD .skip
def f45.s0.h : Hint := { lv := [2, 3, 5, 6] }
def f45.s0.ho : Hint := { lv := [5] }
def f45.s0.shp (x : Int × Int × List Int × List Int) : VS := ⟨[(2, .ptr 0 0), (3, .ptr 1 0), (5, .int .i64 x.1), (6, .int .i64 x.2.1)], [(0, ([.ints .u64 4 x.2.2.1], 24, .norm)), (1, ([.ints .u64 4 x.2.2.2], 24, .norm))], 2⟩
def f45.s0.inX : VS → Option (Int × Int × List Int × List Int)
  | ⟨[(2, .ptr 0 0), (3, .ptr 1 0), (5, .int .i64 t5), (6, .int .i64 t6)], [(0, ([.ints .u64 4 b0], 24, .norm)), (1, ([.ints .u64 4 b1], 24, .norm))], 2⟩ => some (t5, t6, b0, b1)
  | _ => none
def f45.s0.o0 (y : Int) : VS := ⟨[(5, .int .i64 y)], [], 0⟩
def f45.s0.des : ∀ α : Type, Int → (Ex → VS → Option α) → Option α := (des1 (.exit 0) f45.s0.o0)
def f45.s0.out : Int → Ex × VS := (fun y => (.exit 0, f45.s0.o0 y))
theorem f45.s0.desOK : ∀ α y (k : Ex → VS → Option α), f45.s0.des α y k = k (f45.s0.out y).1 (f45.s0.out y).2 := (fun _ _ _ => rfl)
def f45.s0.inY : Ex → VS → Option (Int)
  | .exit 0, ⟨[(5, .int .i64 t5)], [], 0⟩ => some t5
  | _, _ => none
def f45.lp (K : Nat) : Nat → Option (Hint × Summ) := tabLp [(0, f45.s0.h, summOf (iter (f45.s0 K) K) f45.s0.inX f45.s0.des)]
noncomputable def f45.tab (_K : Nat) : List (Nat × Entry) := []
theorem f45.tabOK (K : Nat) : SpecOK Try.prog (tabSp (f45.tab K)) := tab_ok ( tab_nil)
theorem f45.s0.eq (K : Nat) (rec : Int × Int × List Int × List Int → Option (Int)) (x : Int × Int × List Int × List Int) : f45.s0 K rec x = roundL (getA tys) (tabSp (f45.tab K)) 26 0 (f45.lp K) 400 f45.s0.b f45.s0.h f45.s0.ho f45.s0.shp f45.s0.inX f45.s0.inY rec x := by kernel_rfl
theorem f45.s0.lok (K : Nat) : LoopsOK Try.prog 26 0 (f45.lp K) f45.s0.b := loops_ok (by
  have h : loopsIn (f45.lp K) f45.s0.b = [] := by kernel_rfl
  rw [h]; simp)
theorem f45.s0.ok (K : Nat) : SummOK Try.prog 26 0 (summOf (iter (f45.s0 K) K) f45.s0.inX f45.s0.des) f45.s0.b :=
  loop_ok mix tys_ok (f45.tabOK K) (h := f45.s0.h) (ho := f45.s0.ho) (shp := f45.s0.shp) (inX := f45.s0.inX) (des := f45.s0.des) (out := f45.s0.out) (inY := f45.s0.inY) (fuel := 400)
    (by intro st x h; unfold f45.s0.inX at h; split at h <;> simp at h; subst h; rfl)
    (by intro e st y h; unfold f45.s0.inY at h; split at h <;> simp at h <;> subst h <;> rfl)
    f45.s0.desOK (f45.s0.lok K) (f45.s0 K) (f45.s0.eq K) K
theorem f45.loops (K : Nat) : LoopsOK Try.prog 26 0 (f45.lp K) f45.c := loops_ok (by
  have h : loopsIn (f45.lp K) f45.c = [(0, f45.s0.b)] := by kernel_rfl
  rw [h]
  intro p hp
  simp only [List.mem_cons, List.not_mem_nil, or_false] at hp
  rcases hp with rfl
  · exact ⟨_, rfl, (f45.s0.ok K)⟩)
def f45.T (K : Nat) (a0 : List Int) (a1 : List Int) : Option (Int) :=
  (iter (f45.s0 K) K (0, 0, a0, a1)).bind fun y21 =>
  some y21
def f45.F (K : Nat) (x : List Int × List Int) : Option (Int) := f45.T K x.1 x.2
def f45.av (x : List Int × List Int) : List VV := [.agg [.ints .u64 4 x.1], .agg [.ints .u64 4 x.2]]
def f45.bl (_x : List Int × List Int) : List (Nat × Blk) := []
def f45.inA : VS → Option (List Int × List Int)
  | ⟨[(0, .agg [.ints .u64 4 a0]), (1, .agg [.ints .u64 4 a1])], [], 0⟩ => some (a0, a1)
  | _ => none
def f45.o0 (y : Int) : VS := ⟨[(0, .int .i64 y)], [], 0⟩
def f45.des : ∀ α : Type, Int → (VS → Option α) → Option α := (dv1 f45.o0)
def f45.out : Int → VS := f45.o0
def f45.inR : VS → Option (Int)
  | ⟨[(0, .int .i64 y)], [], 0⟩ => some y
  | _ => none
noncomputable def f45.E (K : Nat) : Entry := genE 0 f45.inA (f45.F K) f45.des
theorem f45.eq (K : Nat) (x : List Int × List Int) : f45.F K x = xrun (getA tys) (tabSp (f45.tab K)) Try.f45.ntmps 0 (f45.lp K) 400 f45.c ⟨initL 0 (f45.av x), f45.bl x, 0⟩ (contF (getA tys) 0 Try.f45.results.toList f45.inR) := by kernel_rfl
theorem f45.ok (K : Nat) : EntryOK Try.prog 45 (f45.E K) :=
  gen_ok mix tys_ok (f45.tabOK K) Try.func45 (by kernel_rfl : Try.f45.body = some f45.c) (by kernel_rfl) (f45.loops K) (av := f45.av) (bl := f45.bl) (out := f45.out) (fuel := 400)
    (by intro s x h; unfold f45.inA at h; split at h <;> simp at h; subst h; rfl) (fun _ => Nat.le_of_ble_eq_true rfl)
    (by intro s y h; unfold f45.inR at h; split at h <;> simp at h <;> subst h <;> rfl) (fun _ _ _ => rfl) (f45.eq K)
end Go.Proofs

namespace Go.Proofs
open Go.VM
/-! ### burrow/limbs.Of -/
noncomputable def f46.c : Code := bodyOf Try.f46
def f46.lp (_ : Nat) : Nat → Option (Hint × Summ) := fun _ => none
noncomputable def f46.tab (_K : Nat) : List (Nat × Entry) := []
theorem f46.tabOK (K : Nat) : SpecOK Try.prog (tabSp (f46.tab K)) := tab_ok ( tab_nil)
theorem f46.loops (K : Nat) : LoopsOK Try.prog 6 0 (f46.lp K) f46.c := loops_ok (by
  have h : loopsIn (f46.lp K) f46.c = [] := by kernel_rfl
  rw [h]; simp)
def f46.T (_K : Nat) (a0 : Int) : Option (List Int) :=
  some ([a0, 0, 0, 0])
def f46.F (K : Nat) (x : Int) : Option (List Int) := f46.T K x
def f46.av (x : Int) : List VV := [.int .u64 x]
def f46.bl (_x : Int) : List (Nat × Blk) := []
def f46.inA : VS → Option (Int)
  | ⟨[(0, .int .u64 a0)], [], 0⟩ => some a0
  | _ => none
def f46.o0 (y : List Int) : VS := ⟨[(0, .agg [.ints .u64 4 y])], [], 0⟩
def f46.des : ∀ α : Type, (List Int) → (VS → Option α) → Option α := (dv1 f46.o0)
def f46.out : List Int → VS := f46.o0
def f46.inR : VS → Option (List Int)
  | ⟨[(0, .agg [.ints .u64 4 y])], [], 0⟩ => some y
  | _ => none
noncomputable def f46.E (K : Nat) : Entry := genE 0 f46.inA (f46.F K) f46.des
theorem f46.eq (K : Nat) (x : Int) : f46.F K x = xrun (getA tys) (tabSp (f46.tab K)) Try.f46.ntmps 0 (f46.lp K) 400 f46.c ⟨initL 0 (f46.av x), f46.bl x, 0⟩ (contF (getA tys) 0 Try.f46.results.toList f46.inR) := by kernel_rfl
theorem f46.ok (K : Nat) : EntryOK Try.prog 46 (f46.E K) :=
  gen_ok mix tys_ok (f46.tabOK K) Try.func46 (by kernel_rfl : Try.f46.body = some f46.c) (by kernel_rfl) (f46.loops K) (av := f46.av) (bl := f46.bl) (out := f46.out) (fuel := 400)
    (by intro s x h; unfold f46.inA at h; split at h <;> simp at h; subst h; rfl) (fun _ => Nat.le_of_ble_eq_true rfl)
    (by intro s y h; unfold f46.inR at h; split at h <;> simp at h <;> subst h <;> rfl) (fun _ _ _ => rfl) (f46.eq K)
end Go.Proofs

namespace Go.Proofs
open Go.VM
/-! ### burrow/burrowlaw02.turned -/
noncomputable def f48.c : Code := bodyOf Try.f48
def f48.lp (_ : Nat) : Nat → Option (Hint × Summ) := fun _ => none
noncomputable def f48.tab (_K : Nat) : List (Nat × Entry) := []
theorem f48.tabOK (K : Nat) : SpecOK Try.prog (tabSp (f48.tab K)) := tab_ok ( tab_nil)
theorem f48.loops (K : Nat) : LoopsOK Try.prog 15 0 (f48.lp K) f48.c := loops_ok (by
  have h : loopsIn (f48.lp K) f48.c = [] := by kernel_rfl
  rw [h]; simp)
def f48.T (_K : Nat) (a0 : List Int) : Option (List Int) :=
  let v3 := setD a0 0 (bits .xor .u64 18446744073709551615 (List.getD a0 0 0))
  let v6 := setD v3 1 (bits .xor .u64 18446744073709551615 (List.getD v3 1 0))
  let v9 := setD v6 2 (bits .xor .u64 18446744073709551615 (List.getD v6 2 0))
  some (setD v9 3 (bits .xor .u64 18446744073709551615 (List.getD v9 3 0)))
def f48.F (K : Nat) (x : List Int) : Option (List Int) := f48.T K x
def f48.av (x : List Int) : List VV := [.agg [.ints .u64 4 x]]
def f48.bl (_x : List Int) : List (Nat × Blk) := []
def f48.inA : VS → Option (List Int)
  | ⟨[(0, .agg [.ints .u64 4 a0])], [], 0⟩ => some a0
  | _ => none
def f48.o0 (y : List Int) : VS := ⟨[(0, .agg [.ints .u64 4 y])], [], 0⟩
def f48.des : ∀ α : Type, (List Int) → (VS → Option α) → Option α := (dv1 f48.o0)
def f48.out : List Int → VS := f48.o0
def f48.inR : VS → Option (List Int)
  | ⟨[(0, .agg [.ints .u64 4 y])], [], 0⟩ => some y
  | _ => none
noncomputable def f48.E (K : Nat) : Entry := genE 0 f48.inA (f48.F K) f48.des
theorem f48.eq (K : Nat) (x : List Int) : f48.F K x = xrun (getA tys) (tabSp (f48.tab K)) Try.f48.ntmps 0 (f48.lp K) 400 f48.c ⟨initL 0 (f48.av x), f48.bl x, 0⟩ (contF (getA tys) 0 Try.f48.results.toList f48.inR) := by kernel_rfl
theorem f48.ok (K : Nat) : EntryOK Try.prog 48 (f48.E K) :=
  gen_ok mix tys_ok (f48.tabOK K) Try.func48 (by kernel_rfl : Try.f48.body = some f48.c) (by kernel_rfl) (f48.loops K) (av := f48.av) (bl := f48.bl) (out := f48.out) (fuel := 400)
    (by intro s x h; unfold f48.inA at h; split at h <;> simp at h; subst h; rfl) (fun _ => Nat.le_of_ble_eq_true rfl)
    (by intro s y h; unfold f48.inR at h; split at h <;> simp at h <;> subst h <;> rfl) (fun _ _ _ => rfl) (f48.eq K)
end Go.Proofs

namespace Go.Proofs
open Go.VM
/-! ### burrow/burrowlaw02.none -/
noncomputable def f50.c : Code := bodyOf Try.f50
def f50.lp (_ : Nat) : Nat → Option (Hint × Summ) := fun _ => none
noncomputable def f50.tab (_K : Nat) : List (Nat × Entry) := []
theorem f50.tabOK (K : Nat) : SpecOK Try.prog (tabSp (f50.tab K)) := tab_ok ( tab_nil)
theorem f50.loops (K : Nat) : LoopsOK Try.prog 2 0 (f50.lp K) f50.c := loops_ok (by
  have h : loopsIn (f50.lp K) f50.c = [] := by kernel_rfl
  rw [h]; simp)
def f50.T (_K : Nat)  : Option (List Int) :=
  some ([0, 0, 0, 0])
def f50.F (K : Nat) (_x : Unit) : Option (List Int) := f50.T K 
def f50.av (_x : Unit) : List VV := []
def f50.bl (_x : Unit) : List (Nat × Blk) := []
def f50.inA : VS → Option (Unit)
  | ⟨[], [], 0⟩ => some ()
  | _ => none
def f50.o0 (y : List Int) : VS := ⟨[(0, .agg [.ints .u64 4 y])], [], 0⟩
def f50.des : ∀ α : Type, (List Int) → (VS → Option α) → Option α := (dv1 f50.o0)
def f50.out : List Int → VS := f50.o0
def f50.inR : VS → Option (List Int)
  | ⟨[(0, .agg [.ints .u64 4 y])], [], 0⟩ => some y
  | _ => none
noncomputable def f50.E (K : Nat) : Entry := genE 0 f50.inA (f50.F K) f50.des
theorem f50.eq (K : Nat) (x : Unit) : f50.F K x = xrun (getA tys) (tabSp (f50.tab K)) Try.f50.ntmps 0 (f50.lp K) 400 f50.c ⟨initL 0 (f50.av x), f50.bl x, 0⟩ (contF (getA tys) 0 Try.f50.results.toList f50.inR) := by kernel_rfl
theorem f50.ok (K : Nat) : EntryOK Try.prog 50 (f50.E K) :=
  gen_ok mix tys_ok (f50.tabOK K) Try.func50 (by kernel_rfl : Try.f50.body = some f50.c) (by kernel_rfl) (f50.loops K) (av := f50.av) (bl := f50.bl) (out := f50.out) (fuel := 400)
    (by intro s x h; unfold f50.inA at h; split at h <;> simp at h; rfl) (fun _ => Nat.le_of_ble_eq_true rfl)
    (by intro s y h; unfold f50.inR at h; split at h <;> simp at h <;> subst h <;> rfl) (fun _ _ _ => rfl) (f50.eq K)
end Go.Proofs

namespace Go.Proofs
open Go.VM
/-! ### burrow/burrowlaw02.all -/
noncomputable def f49.c : Code := bodyOf Try.f49
def f49.lp (_ : Nat) : Nat → Option (Hint × Summ) := fun _ => none
noncomputable def f49.tab (K : Nat) : List (Nat × Entry) := [(50, (f50.E K)), (48, (f48.E K))]
theorem f49.tabOK (K : Nat) : SpecOK Try.prog (tabSp (f49.tab K)) := tab_ok ((tab_cons (f50.ok K) (tab_cons (f48.ok K) tab_nil)))
theorem f49.loops (K : Nat) : LoopsOK Try.prog 3 0 (f49.lp K) f49.c := loops_ok (by
  have h : loopsIn (f49.lp K) f49.c = [] := by kernel_rfl
  rw [h]; simp)
def f49.T (K : Nat)  : Option (List Int) :=
  (f50.F K ()).bind fun y1 =>
  (f48.F K y1).bind fun y2 =>
  some y2
def f49.F (K : Nat) (_x : Unit) : Option (List Int) := f49.T K 
def f49.av (_x : Unit) : List VV := []
def f49.bl (_x : Unit) : List (Nat × Blk) := []
def f49.inA : VS → Option (Unit)
  | ⟨[], [], 0⟩ => some ()
  | _ => none
def f49.o0 (y : List Int) : VS := ⟨[(0, .agg [.ints .u64 4 y])], [], 0⟩
def f49.des : ∀ α : Type, (List Int) → (VS → Option α) → Option α := (dv1 f49.o0)
def f49.out : List Int → VS := f49.o0
def f49.inR : VS → Option (List Int)
  | ⟨[(0, .agg [.ints .u64 4 y])], [], 0⟩ => some y
  | _ => none
noncomputable def f49.E (K : Nat) : Entry := genE 0 f49.inA (f49.F K) f49.des
theorem f49.eq (K : Nat) (x : Unit) : f49.F K x = xrun (getA tys) (tabSp (f49.tab K)) Try.f49.ntmps 0 (f49.lp K) 400 f49.c ⟨initL 0 (f49.av x), f49.bl x, 0⟩ (contF (getA tys) 0 Try.f49.results.toList f49.inR) := by kernel_rfl
theorem f49.ok (K : Nat) : EntryOK Try.prog 49 (f49.E K) :=
  gen_ok mix tys_ok (f49.tabOK K) Try.func49 (by kernel_rfl : Try.f49.body = some f49.c) (by kernel_rfl) (f49.loops K) (av := f49.av) (bl := f49.bl) (out := f49.out) (fuel := 400)
    (by intro s x h; unfold f49.inA at h; split at h <;> simp at h; rfl) (fun _ => Nat.le_of_ble_eq_true rfl)
    (by intro s y h; unfold f49.inR at h; split at h <;> simp at h <;> subst h <;> rfl) (fun _ _ _ => rfl) (f49.eq K)
end Go.Proofs

namespace Go.Proofs
open Go.VM
/-! ### burrow/burrowlaw02.alive -/
noncomputable def f51.c : Code := bodyOf Try.f51
def f51.lp (_ : Nat) : Nat → Option (Hint × Summ) := fun _ => none
noncomputable def f51.tab (K : Nat) : List (Nat × Entry) := [(49, (f49.E K)), (46, (f46.E K)), (32, (f32.E K)), (50, (f50.E K)), (34, (f34.E K)), (36, (f36.E K)), (38, (f38.E K)), (42, (f42.E K)), (40, (f40.E K)), (44, (f44.E K))]
theorem f51.tabOK (K : Nat) : SpecOK Try.prog (tabSp (f51.tab K)) := tab_ok ((tab_cons (f49.ok K) (tab_cons (f46.ok K) (tab_cons (f32.ok K) (tab_cons (f50.ok K) (tab_cons (f34.ok K) (tab_cons (f36.ok K) (tab_cons (f38.ok K) (tab_cons (f42.ok K) (tab_cons (f40.ok K) (tab_cons (f44.ok K) tab_nil)))))))))))
theorem f51.loops (K : Nat) : LoopsOK Try.prog 89 0 (f51.lp K) f51.c := loops_ok (by
  have h : loopsIn (f51.lp K) f51.c = [] := by kernel_rfl
  rw [h]; simp)
def f51.T (K : Nat)  : Option (Bool) :=
  (f49.F K ()).bind fun y1 =>
  (f46.F K 1).bind fun y2 =>
  (f32.F K (y1, y2)).bind fun y3 =>
  (f50.F K ()).bind fun y4 =>
  (f46.F K 1).bind fun y5 =>
  (f34.F K (y4, y5)).bind fun y6 =>
  (f36.F K ([0, 0, 1, 0], [0, 0, 1, 0])).bind fun y7 =>
  (f50.F K ()).bind fun y8 =>
  bif (eqL 4 y3.1 y8 && true) then
    bif (y3.2 == 1) then
      (f49.F K ()).bind fun y10 =>
      bif (eqL 4 y6.1 y10 && true) then
        bif (y6.2 == 1) then
          (f50.F K ()).bind fun y12 =>
          bif (eqL 4 y7.1 y12 && true) then
            (f46.F K 1).bind fun y14 =>
            bif (eqL 4 y7.2 y14 && true) then
              (f46.F K 5).bind fun y16 =>
              (f38.F K (y16, 64)).bind fun y17 =>
              bif (eqL 4 y17 [0, 5, 0, 0] && true) then
                (f38.F K ([0, 0, 0, 9223372036854775808], (-255))).bind fun y19 =>
                (f46.F K 1).bind fun y20 =>
                bif (eqL 4 y19 y20 && true) then
                  (f50.F K ()).bind fun y22 =>
                  (f42.F K y22).bind fun y23 =>
                  bif (y23 == 0) then
                    (f42.F K [0, 1, 0, 0]).bind fun y24 =>
                    bif (y24 == 65) then
                      (f46.F K 4).bind fun y25 =>
                      (f40.F K (y25, 2)).bind fun y26 =>
                      bif (y26 == 1) then
                        (f46.F K 4).bind fun y27 =>
                        (f40.F K (y27, 256)).bind fun y28 =>
                        bif (y28 == 0) then
                          (f46.F K 3).bind fun y29 =>
                          (f46.F K 5).bind fun y30 =>
                          (f44.F K (y29, y30)).bind fun y31 =>
                          some (y31 == (-1))
                        else
                          some false
                      else
                        some false
                    else
                      some false
                  else
                    some false
                else
                  some false
              else
                some false
            else
              some false
          else
            some false
        else
          some false
      else
        some false
    else
      some false
  else
    some false
def f51.F (K : Nat) (_x : Unit) : Option (Bool) := f51.T K 
def f51.av (_x : Unit) : List VV := []
def f51.bl (_x : Unit) : List (Nat × Blk) := []
def f51.inA : VS → Option (Unit)
  | ⟨[], [], 0⟩ => some ()
  | _ => none
def f51.o0 (y : Bool) : VS := ⟨[(0, .bool y)], [], 0⟩
def f51.des : ∀ α : Type, Bool → (VS → Option α) → Option α := (dv1 f51.o0)
def f51.out : Bool → VS := f51.o0
def f51.inR : VS → Option (Bool)
  | ⟨[(0, .bool y)], [], 0⟩ => some y
  | _ => none
noncomputable def f51.E (K : Nat) : Entry := genE 0 f51.inA (f51.F K) f51.des
theorem f51.eq (K : Nat) (x : Unit) : f51.F K x = xrun (getA tys) (tabSp (f51.tab K)) Try.f51.ntmps 0 (f51.lp K) 400 f51.c ⟨initL 0 (f51.av x), f51.bl x, 0⟩ (contF (getA tys) 0 Try.f51.results.toList f51.inR) := by kernel_rfl
theorem f51.ok (K : Nat) : EntryOK Try.prog 51 (f51.E K) :=
  gen_ok mix tys_ok (f51.tabOK K) Try.func51 (by kernel_rfl : Try.f51.body = some f51.c) (by kernel_rfl) (f51.loops K) (av := f51.av) (bl := f51.bl) (out := f51.out) (fuel := 400)
    (by intro s x h; unfold f51.inA at h; split at h <;> simp at h; rfl) (fun _ => Nat.le_of_ble_eq_true rfl)
    (by intro s y h; unfold f51.inR at h; split at h <;> simp at h <;> subst h <;> rfl) (fun _ _ _ => rfl) (f51.eq K)
end Go.Proofs

namespace Go.Proofs
open Go.VM
/-! ### burrow/burrowlaw02.LimbsReckoned -/
noncomputable def f3.c : Code := bodyOf Try.f3
def f3.lp (_ : Nat) : Nat → Option (Hint × Summ) := fun _ => none
noncomputable def f3.tab (K : Nat) : List (Nat × Entry) := [(32, (f32.E K)), (33, (f33.E K)), (34, (f34.E K)), (35, (f35.E K)), (36, (f36.E K)), (37, (f37.E K)), (38, (f38.E K)), (39, (f39.E K)), (40, (f40.E K)), (41, (f41.E K)), (42, (f42.E K)), (43, (f43.E K)), (44, (f44.E K)), (45, (f45.E K)), (46, (f46.E K)), (47, (f47.E K))]
theorem f3.tabOK (K : Nat) : SpecOK Try.prog (tabSp (f3.tab K)) := tab_ok ((tab_cons (f32.ok K) (tab_cons (f33.ok K) (tab_cons (f34.ok K) (tab_cons (f35.ok K) (tab_cons (f36.ok K) (tab_cons (f37.ok K) (tab_cons (f38.ok K) (tab_cons (f39.ok K) (tab_cons (f40.ok K) (tab_cons (f41.ok K) (tab_cons (f42.ok K) (tab_cons (f43.ok K) (tab_cons (f44.ok K) (tab_cons (f45.ok K) (tab_cons (f46.ok K) (tab_cons (f47.ok K) tab_nil)))))))))))))))))
theorem f3.loops (K : Nat) : LoopsOK Try.prog 126 0 (f3.lp K) f3.c := loops_ok (by
  have h : loopsIn (f3.lp K) f3.c = [] := by kernel_rfl
  rw [h]; simp)
def f3.T (K : Nat) (a0 : List Int) (a1 : List Int) (a2 : Int) : Option (Bool) :=
  (f32.F K (a0, a1)).bind fun y1 =>
  (f33.F K (a0, a1)).bind fun y2 =>
  (f34.F K (a0, a1)).bind fun y3 =>
  (f35.F K (a0, a1)).bind fun y4 =>
  (f36.F K (a0, a1)).bind fun y5 =>
  (f37.F K (a0, a1)).bind fun y6 =>
  bif (eqL 4 y1.1 y2.1 && true) then
    bif (y1.2 == y2.2) then
      bif (eqL 4 y3.1 y4.1 && true) then
        bif (y3.2 == y4.2) then
          bif (eqL 4 y5.1 y6.1 && true) then
            bif (eqL 4 y5.2 y6.2 && true) then
              (f38.F K (a0, a2)).bind fun y13 =>
              (f39.F K (a0, a2)).bind fun y14 =>
              bif (eqL 4 y13 y14 && true) then
                (f40.F K (a0, a2)).bind fun y16 =>
                (f41.F K (a0, a2)).bind fun y17 =>
                bif (y16 == y17) then
                  (f42.F K a0).bind fun y19 =>
                  (f43.F K a0).bind fun y20 =>
                  bif (y19 == y20) then
                    (f44.F K (a0, a1)).bind fun y22 =>
                    (f45.F K (a0, a1)).bind fun y23 =>
                    bif (y22 == y23) then
                      (f46.F K (List.getD a0 0 0)).bind fun y26 =>
                      (f47.F K (List.getD a0 0 0)).bind fun y28 =>
                      some (eqL 4 y26 y28 && true)
                    else
                      some false
                  else
                    some false
                else
                  some false
              else
                some false
            else
              some false
          else
            some false
        else
          some false
      else
        some false
    else
      some false
  else
    some false
def f3.F (K : Nat) (x : List Int × List Int × Int) : Option (Bool) := f3.T K x.1 x.2.1 x.2.2
def f3.av (x : List Int × List Int × Int) : List VV := [.agg [.ints .u64 4 x.1], .agg [.ints .u64 4 x.2.1], .int .i64 x.2.2]
def f3.bl (_x : List Int × List Int × Int) : List (Nat × Blk) := []
def f3.inA : VS → Option (List Int × List Int × Int)
  | ⟨[(0, .agg [.ints .u64 4 a0]), (1, .agg [.ints .u64 4 a1]), (2, .int .i64 a2)], [], 0⟩ => some (a0, a1, a2)
  | _ => none
def f3.o0 (y : Bool) : VS := ⟨[(0, .bool y)], [], 0⟩
def f3.des : ∀ α : Type, Bool → (VS → Option α) → Option α := (dv1 f3.o0)
def f3.out : Bool → VS := f3.o0
def f3.inR : VS → Option (Bool)
  | ⟨[(0, .bool y)], [], 0⟩ => some y
  | _ => none
noncomputable def f3.E (K : Nat) : Entry := genE 0 f3.inA (f3.F K) f3.des
theorem f3.eq (K : Nat) (x : List Int × List Int × Int) : f3.F K x = xrun (getA tys) (tabSp (f3.tab K)) Try.f3.ntmps 0 (f3.lp K) 400 f3.c ⟨initL 0 (f3.av x), f3.bl x, 0⟩ (contF (getA tys) 0 Try.f3.results.toList f3.inR) := by kernel_rfl
theorem f3.ok (K : Nat) : EntryOK Try.prog 3 (f3.E K) :=
  gen_ok mix tys_ok (f3.tabOK K) Try.func3 (by kernel_rfl : Try.f3.body = some f3.c) (by kernel_rfl) (f3.loops K) (av := f3.av) (bl := f3.bl) (out := f3.out) (fuel := 400)
    (by intro s x h; unfold f3.inA at h; split at h <;> simp at h; subst h; rfl) (fun _ => Nat.le_of_ble_eq_true rfl)
    (by intro s y h; unfold f3.inR at h; split at h <;> simp at h <;> subst h <;> rfl) (fun _ _ _ => rfl) (f3.eq K)
end Go.Proofs

namespace Go.Proofs
open Go.VM
/-! ### burrow/burrowlaw02.LimbsTurned -/
noncomputable def f4.c : Code := bodyOf Try.f4
def f4.lp (_ : Nat) : Nat → Option (Hint × Summ) := fun _ => none
noncomputable def f4.tab (K : Nat) : List (Nat × Entry) := [(48, (f48.E K)), (32, (f32.E K)), (49, (f49.E K)), (34, (f34.E K)), (50, (f50.E K)), (46, (f46.E K)), (51, (f51.E K))]
theorem f4.tabOK (K : Nat) : SpecOK Try.prog (tabSp (f4.tab K)) := tab_ok ((tab_cons (f48.ok K) (tab_cons (f32.ok K) (tab_cons (f49.ok K) (tab_cons (f34.ok K) (tab_cons (f50.ok K) (tab_cons (f46.ok K) (tab_cons (f51.ok K) tab_nil))))))))
theorem f4.loops (K : Nat) : LoopsOK Try.prog 77 0 (f4.lp K) f4.c := loops_ok (by
  have h : loopsIn (f4.lp K) f4.c = [] := by kernel_rfl
  rw [h]; simp)
def f4.T (K : Nat) (a0 : List Int) : Option (Bool) :=
  (f48.F K a0).bind fun y1 =>
  (f32.F K (a0, y1)).bind fun y2 =>
  (f49.F K ()).bind fun y3 =>
  (f34.F K (y3, a0)).bind fun y4 =>
  (f50.F K ()).bind fun y5 =>
  (f34.F K (y5, a0)).bind fun y6 =>
  (f46.F K 1).bind fun y7 =>
  (f32.F K (y1, y7)).bind fun y8 =>
  (f50.F K ()).bind fun y9 =>
  bif (eqL 4 a0 y9 && true) then
    (f51.F K ()).bind fun y11 =>
    bif y11 then
      (f49.F K ()).bind fun y12 =>
      bif (eqL 4 y2.1 y12 && true) then
        bif (y2.2 == 0) then
          bif (eqL 4 y4.1 y1 && true) then
            bif (y4.2 == 0) then
              bif (eqL 4 y6.1 y8.1 && true) then
                bif (y6.2 == 0) then
                  some (y8.2 == 1)
                else
                  some false
              else
                some false
            else
              some false
          else
            some false
        else
          some false
      else
        some false
    else
      some false
  else
    (f51.F K ()).bind fun y16 =>
    bif y16 then
      (f49.F K ()).bind fun y17 =>
      bif (eqL 4 y2.1 y17 && true) then
        bif (y2.2 == 0) then
          bif (eqL 4 y4.1 y1 && true) then
            bif (y4.2 == 0) then
              bif (eqL 4 y6.1 y8.1 && true) then
                bif (y6.2 == 1) then
                  some (y8.2 == 0)
                else
                  some false
              else
                some false
            else
              some false
          else
            some false
        else
          some false
      else
        some false
    else
      some false
def f4.F (K : Nat) (x : List Int) : Option (Bool) := f4.T K x
def f4.av (x : List Int) : List VV := [.agg [.ints .u64 4 x]]
def f4.bl (_x : List Int) : List (Nat × Blk) := []
def f4.inA : VS → Option (List Int)
  | ⟨[(0, .agg [.ints .u64 4 a0])], [], 0⟩ => some a0
  | _ => none
def f4.o0 (y : Bool) : VS := ⟨[(0, .bool y)], [], 0⟩
def f4.des : ∀ α : Type, Bool → (VS → Option α) → Option α := (dv1 f4.o0)
def f4.out : Bool → VS := f4.o0
def f4.inR : VS → Option (Bool)
  | ⟨[(0, .bool y)], [], 0⟩ => some y
  | _ => none
noncomputable def f4.E (K : Nat) : Entry := genE 0 f4.inA (f4.F K) f4.des
theorem f4.eq (K : Nat) (x : List Int) : f4.F K x = xrun (getA tys) (tabSp (f4.tab K)) Try.f4.ntmps 0 (f4.lp K) 400 f4.c ⟨initL 0 (f4.av x), f4.bl x, 0⟩ (contF (getA tys) 0 Try.f4.results.toList f4.inR) := by kernel_rfl
theorem f4.ok (K : Nat) : EntryOK Try.prog 4 (f4.E K) :=
  gen_ok mix tys_ok (f4.tabOK K) Try.func4 (by kernel_rfl : Try.f4.body = some f4.c) (by kernel_rfl) (f4.loops K) (av := f4.av) (bl := f4.bl) (out := f4.out) (fuel := 400)
    (by intro s x h; unfold f4.inA at h; split at h <;> simp at h; subst h; rfl) (fun _ => Nat.le_of_ble_eq_true rfl)
    (by intro s y h; unfold f4.inR at h; split at h <;> simp at h <;> subst h <;> rfl) (fun _ _ _ => rfl) (f4.eq K)
end Go.Proofs

namespace Go.Proofs
open Go.VM
/-! ### burrow/burrowlaw02.LimbsSteps -/
noncomputable def f5.c : Code := bodyOf Try.f5
def f5.s0t (K : Nat) (rec : Int × List Int × List Int × List Int × List Int → Option (List Int × List Int × List Int × List Int)) (t7 : Int) (b0 : List Int) (b1 : List Int) (b2 : List Int) (b3 : List Int) : Option (List Int × List Int × List Int × List Int) :=
  bif (decide (t7 < 256)) then
    (f40.F K (b1, t7)).bind fun y2 =>
    bif (y2 == 0) then
      rec ((IntKind.wrap .i64 (t7 + 1)), b0, b1, b2, b3)
    else
      (f38.F K (b0, t7)).bind fun y4 =>
      (f32.F K (b2, y4)).bind fun y5 =>
      (f46.F K y5.2).bind fun y6 =>
      (f32.F K (b3, y6)).bind fun y7 =>
      (f38.F K (b0, (IntKind.wrap .i64 (t7 - 256)))).bind fun y9 =>
      (f32.F K (y7.1, y9)).bind fun y10 =>
      rec ((IntKind.wrap .i64 (t7 + 1)), b0, b1, y5.1, y10.1)
  else
    some (b0, b1, b2, b3)
def f5.s0 (K : Nat) (rec : Int × List Int × List Int × List Int × List Int → Option (List Int × List Int × List Int × List Int)) (x : Int × List Int × List Int × List Int × List Int) : Option (List Int × List Int × List Int × List Int) := f5.s0t K rec x.1 x.2.1 x.2.2.1 x.2.2.2.1 x.2.2.2.2
noncomputable def f5.s0.b : Code := (findLoop 0 f5.c).getD .skip
def f5.s0.h : Hint := { lv := [2, 3, 5, 6, 7] }
def f5.s0.ho : Hint := { lv := [2, 3, 5, 6] }
def f5.s0.shp (x : Int × List Int × List Int × List Int × List Int) : VS := ⟨[(2, .ptr 0 0), (3, .ptr 1 0), (5, .ptr 2 0), (6, .ptr 3 0), (7, .int .i64 x.1)], [(0, ([.ints .u64 4 x.2.1], 24, .norm)), (1, ([.ints .u64 4 x.2.2.1], 24, .norm)), (2, ([.ints .u64 4 x.2.2.2.1], 24, .norm)), (3, ([.ints .u64 4 x.2.2.2.2], 24, .norm))], 4⟩
def f5.s0.inX : VS → Option (Int × List Int × List Int × List Int × List Int)
  | ⟨[(2, .ptr 0 0), (3, .ptr 1 0), (5, .ptr 2 0), (6, .ptr 3 0), (7, .int .i64 t7)], [(0, ([.ints .u64 4 b0], 24, .norm)), (1, ([.ints .u64 4 b1], 24, .norm)), (2, ([.ints .u64 4 b2], 24, .norm)), (3, ([.ints .u64 4 b3], 24, .norm))], 4⟩ => some (t7, b0, b1, b2, b3)
  | _ => none
def f5.s0.o0 (y : List Int × List Int × List Int × List Int) : VS := ⟨[(2, .ptr 0 0), (3, .ptr 1 0), (5, .ptr 2 0), (6, .ptr 3 0)], [(0, ([.ints .u64 4 y.1], 24, .norm)), (1, ([.ints .u64 4 y.2.1], 24, .norm)), (2, ([.ints .u64 4 y.2.2.1], 24, .norm)), (3, ([.ints .u64 4 y.2.2.2], 24, .norm))], 4⟩
def f5.s0.des : ∀ α : Type, (List Int × List Int × List Int × List Int) → (Ex → VS → Option α) → Option α := (des1 (.exit 0) f5.s0.o0)
def f5.s0.out : List Int × List Int × List Int × List Int → Ex × VS := (fun y => (.exit 0, f5.s0.o0 y))
theorem f5.s0.desOK : ∀ α y (k : Ex → VS → Option α), f5.s0.des α y k = k (f5.s0.out y).1 (f5.s0.out y).2 := (fun _ _ _ => rfl)
def f5.s0.inY : Ex → VS → Option (List Int × List Int × List Int × List Int)
  | .exit 0, ⟨[(2, .ptr 0 0), (3, .ptr 1 0), (5, .ptr 2 0), (6, .ptr 3 0)], [(0, ([.ints .u64 4 b0], 24, .norm)), (1, ([.ints .u64 4 b1], 24, .norm)), (2, ([.ints .u64 4 b2], 24, .norm)), (3, ([.ints .u64 4 b3], 24, .norm))], 4⟩ => some (b0, b1, b2, b3)
  | _, _ => none
def f5.lp (K : Nat) : Nat → Option (Hint × Summ) := tabLp [(0, f5.s0.h, summOf (iter (f5.s0 K) K) f5.s0.inX f5.s0.des)]
noncomputable def f5.tab (K : Nat) : List (Nat × Entry) := [(40, (f40.E K)), (38, (f38.E K)), (32, (f32.E K)), (46, (f46.E K)), (36, (f36.E K)), (51, (f51.E K))]
theorem f5.tabOK (K : Nat) : SpecOK Try.prog (tabSp (f5.tab K)) := tab_ok ((tab_cons (f40.ok K) (tab_cons (f38.ok K) (tab_cons (f32.ok K) (tab_cons (f46.ok K) (tab_cons (f36.ok K) (tab_cons (f51.ok K) tab_nil)))))))
theorem f5.s0.eq (K : Nat) (rec : Int × List Int × List Int × List Int × List Int → Option (List Int × List Int × List Int × List Int)) (x : Int × List Int × List Int × List Int × List Int) : f5.s0 K rec x = roundL (getA tys) (tabSp (f5.tab K)) 60 0 (f5.lp K) 400 f5.s0.b f5.s0.h f5.s0.ho f5.s0.shp f5.s0.inX f5.s0.inY rec x := by kernel_rfl
theorem f5.s0.lok (K : Nat) : LoopsOK Try.prog 60 0 (f5.lp K) f5.s0.b := loops_ok (by
  have h : loopsIn (f5.lp K) f5.s0.b = [] := by kernel_rfl
  rw [h]; simp)
theorem f5.s0.ok (K : Nat) : SummOK Try.prog 60 0 (summOf (iter (f5.s0 K) K) f5.s0.inX f5.s0.des) f5.s0.b :=
  loop_ok mix tys_ok (f5.tabOK K) (h := f5.s0.h) (ho := f5.s0.ho) (shp := f5.s0.shp) (inX := f5.s0.inX) (des := f5.s0.des) (out := f5.s0.out) (inY := f5.s0.inY) (fuel := 400)
    (by intro st x h; unfold f5.s0.inX at h; split at h <;> simp at h; subst h; rfl)
    (by intro e st y h; unfold f5.s0.inY at h; split at h <;> simp at h <;> subst h <;> rfl)
    f5.s0.desOK (f5.s0.lok K) (f5.s0 K) (f5.s0.eq K) K
theorem f5.loops (K : Nat) : LoopsOK Try.prog 60 0 (f5.lp K) f5.c := loops_ok (by
  have h : loopsIn (f5.lp K) f5.c = [(0, f5.s0.b)] := by kernel_rfl
  rw [h]
  intro p hp
  simp only [List.mem_cons, List.not_mem_nil, or_false] at hp
  rcases hp with rfl
  · exact ⟨_, rfl, (f5.s0.ok K)⟩)
def f5.T (K : Nat) (a0 : List Int) (a1 : List Int) : Option (Bool) :=
  (iter (f5.s0 K) K (0, a0, a1, [0, 0, 0, 0], [0, 0, 0, 0])).bind fun y12 =>
  (f36.F K (y12.1, y12.2.1)).bind fun y13 =>
  (f51.F K ()).bind fun y14 =>
  bif y14 then
    bif (eqL 4 y13.1 y12.2.2.1 && true) then
      some (eqL 4 y13.2 y12.2.2.2 && true)
    else
      some false
  else
    some false
def f5.F (K : Nat) (x : List Int × List Int) : Option (Bool) := f5.T K x.1 x.2
def f5.av (x : List Int × List Int) : List VV := [.agg [.ints .u64 4 x.1], .agg [.ints .u64 4 x.2]]
def f5.bl (_x : List Int × List Int) : List (Nat × Blk) := []
def f5.inA : VS → Option (List Int × List Int)
  | ⟨[(0, .agg [.ints .u64 4 a0]), (1, .agg [.ints .u64 4 a1])], [], 0⟩ => some (a0, a1)
  | _ => none
def f5.o0 (y : Bool) : VS := ⟨[(0, .bool y)], [], 0⟩
def f5.des : ∀ α : Type, Bool → (VS → Option α) → Option α := (dv1 f5.o0)
def f5.out : Bool → VS := f5.o0
def f5.inR : VS → Option (Bool)
  | ⟨[(0, .bool y)], [], 0⟩ => some y
  | _ => none
noncomputable def f5.E (K : Nat) : Entry := genE 0 f5.inA (f5.F K) f5.des
theorem f5.eq (K : Nat) (x : List Int × List Int) : f5.F K x = xrun (getA tys) (tabSp (f5.tab K)) Try.f5.ntmps 0 (f5.lp K) 400 f5.c ⟨initL 0 (f5.av x), f5.bl x, 0⟩ (contF (getA tys) 0 Try.f5.results.toList f5.inR) := by kernel_rfl
theorem f5.ok (K : Nat) : EntryOK Try.prog 5 (f5.E K) :=
  gen_ok mix tys_ok (f5.tabOK K) Try.func5 (by kernel_rfl : Try.f5.body = some f5.c) (by kernel_rfl) (f5.loops K) (av := f5.av) (bl := f5.bl) (out := f5.out) (fuel := 400)
    (by intro s x h; unfold f5.inA at h; split at h <;> simp at h; subst h; rfl) (fun _ => Nat.le_of_ble_eq_true rfl)
    (by intro s y h; unfold f5.inR at h; split at h <;> simp at h <;> subst h <;> rfl) (fun _ _ _ => rfl) (f5.eq K)
end Go.Proofs

namespace Go.Proofs
open Go.VM
/-! ### burrow/burrowlaw02.LimbsApart -/
noncomputable def f6.c : Code := bodyOf Try.f6
def f6.lp (_ : Nat) : Nat → Option (Hint × Summ) := fun _ => none
noncomputable def f6.tab (K : Nat) : List (Nat × Entry) := [(34, (f34.E K)), (32, (f32.E K)), (44, (f44.E K)), (51, (f51.E K)), (50, (f50.E K))]
theorem f6.tabOK (K : Nat) : SpecOK Try.prog (tabSp (f6.tab K)) := tab_ok ((tab_cons (f34.ok K) (tab_cons (f32.ok K) (tab_cons (f44.ok K) (tab_cons (f51.ok K) (tab_cons (f50.ok K) tab_nil))))))
theorem f6.loops (K : Nat) : LoopsOK Try.prog 88 0 (f6.lp K) f6.c := loops_ok (by
  have h : loopsIn (f6.lp K) f6.c = [] := by kernel_rfl
  rw [h]; simp)
def f6.T (K : Nat) (a0 : List Int) (a1 : List Int) : Option (Bool) :=
  (f34.F K (a0, a1)).bind fun y1 =>
  (f34.F K (a1, a0)).bind fun y2 =>
  (f32.F K (y1.1, y2.1)).bind fun y3 =>
  (f44.F K (a0, a1)).bind fun y4 =>
  bif (eqL 4 a0 a1 && true) then
    (f51.F K ()).bind fun y6 =>
    bif y6 then
      bif (y4 == 0) then
        bif (y1.2 == 0) then
          bif (y2.2 == 0) then
            (f50.F K ()).bind fun y7 =>
            some (eqL 4 y1.1 y7 && true)
          else
            some false
        else
          some false
      else
        some false
    else
      some false
  else
    (f51.F K ()).bind fun y9 =>
    bif y9 then
      (f50.F K ()).bind fun y10 =>
      bif (eqL 4 y3.1 y10 && true) then
        bif ((IntKind.wrap .u64 (y1.2 + y2.2)) == 1) then
          bif ((y4 == (-1)) == (y1.2 == 1)) then
            bif ((y4 == 1) == (y2.2 == 1)) then
              (f44.F K (a1, a0)).bind fun y16 =>
              some (y16 == (IntKind.wrap .i64 (0 - y4)))
            else
              some false
          else
            some false
        else
          some false
      else
        some false
    else
      some false
def f6.F (K : Nat) (x : List Int × List Int) : Option (Bool) := f6.T K x.1 x.2
def f6.av (x : List Int × List Int) : List VV := [.agg [.ints .u64 4 x.1], .agg [.ints .u64 4 x.2]]
def f6.bl (_x : List Int × List Int) : List (Nat × Blk) := []
def f6.inA : VS → Option (List Int × List Int)
  | ⟨[(0, .agg [.ints .u64 4 a0]), (1, .agg [.ints .u64 4 a1])], [], 0⟩ => some (a0, a1)
  | _ => none
def f6.o0 (y : Bool) : VS := ⟨[(0, .bool y)], [], 0⟩
def f6.des : ∀ α : Type, Bool → (VS → Option α) → Option α := (dv1 f6.o0)
def f6.out : Bool → VS := f6.o0
def f6.inR : VS → Option (Bool)
  | ⟨[(0, .bool y)], [], 0⟩ => some y
  | _ => none
noncomputable def f6.E (K : Nat) : Entry := genE 0 f6.inA (f6.F K) f6.des
theorem f6.eq (K : Nat) (x : List Int × List Int) : f6.F K x = xrun (getA tys) (tabSp (f6.tab K)) Try.f6.ntmps 0 (f6.lp K) 400 f6.c ⟨initL 0 (f6.av x), f6.bl x, 0⟩ (contF (getA tys) 0 Try.f6.results.toList f6.inR) := by kernel_rfl
theorem f6.ok (K : Nat) : EntryOK Try.prog 6 (f6.E K) :=
  gen_ok mix tys_ok (f6.tabOK K) Try.func6 (by kernel_rfl : Try.f6.body = some f6.c) (by kernel_rfl) (f6.loops K) (av := f6.av) (bl := f6.bl) (out := f6.out) (fuel := 400)
    (by intro s x h; unfold f6.inA at h; split at h <;> simp at h; subst h; rfl) (fun _ => Nat.le_of_ble_eq_true rfl)
    (by intro s y h; unfold f6.inR at h; split at h <;> simp at h <;> subst h <;> rfl) (fun _ _ _ => rfl) (f6.eq K)
end Go.Proofs

namespace Go.Proofs
open Go.VM
/-! ### burrow/burrowlaw02.LimbsSquares -/
noncomputable def f7.c : Code := bodyOf Try.f7
def f7.lp (_ : Nat) : Nat → Option (Hint × Summ) := fun _ => none
noncomputable def f7.tab (K : Nat) : List (Nat × Entry) := [(36, (f36.E K)), (34, (f34.E K)), (32, (f32.E K)), (51, (f51.E K))]
theorem f7.tabOK (K : Nat) : SpecOK Try.prog (tabSp (f7.tab K)) := tab_ok ((tab_cons (f36.ok K) (tab_cons (f34.ok K) (tab_cons (f32.ok K) (tab_cons (f51.ok K) tab_nil)))))
theorem f7.loops (K : Nat) : LoopsOK Try.prog 59 0 (f7.lp K) f7.c := loops_ok (by
  have h : loopsIn (f7.lp K) f7.c = [] := by kernel_rfl
  rw [h]; simp)
def f7.T (K : Nat) (a0 : List Int) (a1 : List Int) : Option (Bool) :=
  (f36.F K (a0, a0)).bind fun y1 =>
  (f36.F K (a1, a1)).bind fun y2 =>
  (f34.F K (y1.1, y2.1)).bind fun y3 =>
  (f32.F K (a0, a1)).bind fun y4 =>
  (f34.F K (a0, a1)).bind fun y5 =>
  (f36.F K (y4.1, y5.1)).bind fun y6 =>
  (f51.F K ()).bind fun y7 =>
  bif y7 then
    some (eqL 4 y3.1 y6.1 && true)
  else
    some false
def f7.F (K : Nat) (x : List Int × List Int) : Option (Bool) := f7.T K x.1 x.2
def f7.av (x : List Int × List Int) : List VV := [.agg [.ints .u64 4 x.1], .agg [.ints .u64 4 x.2]]
def f7.bl (_x : List Int × List Int) : List (Nat × Blk) := []
def f7.inA : VS → Option (List Int × List Int)
  | ⟨[(0, .agg [.ints .u64 4 a0]), (1, .agg [.ints .u64 4 a1])], [], 0⟩ => some (a0, a1)
  | _ => none
def f7.o0 (y : Bool) : VS := ⟨[(0, .bool y)], [], 0⟩
def f7.des : ∀ α : Type, Bool → (VS → Option α) → Option α := (dv1 f7.o0)
def f7.out : Bool → VS := f7.o0
def f7.inR : VS → Option (Bool)
  | ⟨[(0, .bool y)], [], 0⟩ => some y
  | _ => none
noncomputable def f7.E (K : Nat) : Entry := genE 0 f7.inA (f7.F K) f7.des
theorem f7.eq (K : Nat) (x : List Int × List Int) : f7.F K x = xrun (getA tys) (tabSp (f7.tab K)) Try.f7.ntmps 0 (f7.lp K) 400 f7.c ⟨initL 0 (f7.av x), f7.bl x, 0⟩ (contF (getA tys) 0 Try.f7.results.toList f7.inR) := by kernel_rfl
theorem f7.ok (K : Nat) : EntryOK Try.prog 7 (f7.E K) :=
  gen_ok mix tys_ok (f7.tabOK K) Try.func7 (by kernel_rfl : Try.f7.body = some f7.c) (by kernel_rfl) (f7.loops K) (av := f7.av) (bl := f7.bl) (out := f7.out) (fuel := 400)
    (by intro s x h; unfold f7.inA at h; split at h <;> simp at h; subst h; rfl) (fun _ => Nat.le_of_ble_eq_true rfl)
    (by intro s y h; unfold f7.inR at h; split at h <;> simp at h <;> subst h <;> rfl) (fun _ _ _ => rfl) (f7.eq K)
end Go.Proofs

namespace Go.Proofs
open Go.VM
/-! ### burrow/burrowlaw02.LimbsTop -/
noncomputable def f8.c : Code := bodyOf Try.f8
def f8.lp (_ : Nat) : Nat → Option (Hint × Summ) := fun _ => none
noncomputable def f8.tab (K : Nat) : List (Nat × Entry) := [(36, (f36.E K)), (42, (f42.E K)), (50, (f50.E K)), (51, (f51.E K)), (32, (f32.E K))]
theorem f8.tabOK (K : Nat) : SpecOK Try.prog (tabSp (f8.tab K)) := tab_ok ((tab_cons (f36.ok K) (tab_cons (f42.ok K) (tab_cons (f50.ok K) (tab_cons (f51.ok K) (tab_cons (f32.ok K) tab_nil))))))
theorem f8.loops (K : Nat) : LoopsOK Try.prog 83 0 (f8.lp K) f8.c := loops_ok (by
  have h : loopsIn (f8.lp K) f8.c = [] := by kernel_rfl
  rw [h]; simp)
def f8.T (K : Nat) (a0 : List Int) (a1 : List Int) : Option (Bool) :=
  (f36.F K (a0, a1)).bind fun y1 =>
  (f42.F K y1.1).bind fun y2 =>
  (f50.F K ()).bind fun y3 =>
  bif (!(eqL 4 y1.2 y3 && true)) then
    (f42.F K y1.2).bind fun y5 =>
    let v6 := IntKind.wrap .i64 (256 + y5)
    (f42.F K a0).bind fun y7 =>
    (f42.F K a1).bind fun y8 =>
    let v9 := IntKind.wrap .i64 (y7 + y8)
    (f50.F K ()).bind fun y10 =>
    bif (eqL 4 a0 y10 && true) then
      (f51.F K ()).bind fun y12 =>
      bif y12 then
        some (v6 == 0)
      else
        some false
    else
      (f50.F K ()).bind fun y13 =>
      bif (eqL 4 a1 y13 && true) then
        (f51.F K ()).bind fun y15 =>
        bif y15 then
          some (v6 == 0)
        else
          some false
      else
        (f32.F K (a0, a1)).bind fun y16 =>
        (f42.F K y16.1).bind fun y17 =>
        bif (y16.2 == 1) then
          (f42.F K a0).bind fun y19 =>
          (f42.F K a1).bind fun y20 =>
          let v21 := maxE y19 y20
          (f51.F K ()).bind fun y22 =>
          bif y22 then
            bif (v6 == v9) then
              bif (257 == v21) then
                some true
              else
                some (257 == (IntKind.wrap .i64 (v21 + 1)))
            else
              bif (v6 == (IntKind.wrap .i64 (v9 - 1))) then
                bif (257 == v21) then
                  some true
                else
                  some (257 == (IntKind.wrap .i64 (v21 + 1)))
              else
                some false
          else
            some false
        else
          (f42.F K a0).bind fun y30 =>
          (f42.F K a1).bind fun y31 =>
          let v32 := maxE y30 y31
          (f51.F K ()).bind fun y33 =>
          bif y33 then
            bif (v6 == v9) then
              bif (y17 == v32) then
                some true
              else
                some (y17 == (IntKind.wrap .i64 (v32 + 1)))
            else
              bif (v6 == (IntKind.wrap .i64 (v9 - 1))) then
                bif (y17 == v32) then
                  some true
                else
                  some (y17 == (IntKind.wrap .i64 (v32 + 1)))
              else
                some false
          else
            some false
  else
    (f42.F K a0).bind fun y41 =>
    (f42.F K a1).bind fun y42 =>
    let v43 := IntKind.wrap .i64 (y41 + y42)
    (f50.F K ()).bind fun y44 =>
    bif (eqL 4 a0 y44 && true) then
      (f51.F K ()).bind fun y46 =>
      bif y46 then
        some (y2 == 0)
      else
        some false
    else
      (f50.F K ()).bind fun y47 =>
      bif (eqL 4 a1 y47 && true) then
        (f51.F K ()).bind fun y49 =>
        bif y49 then
          some (y2 == 0)
        else
          some false
      else
        (f32.F K (a0, a1)).bind fun y50 =>
        (f42.F K y50.1).bind fun y51 =>
        bif (y50.2 == 1) then
          (f42.F K a0).bind fun y53 =>
          (f42.F K a1).bind fun y54 =>
          let v55 := maxE y53 y54
          (f51.F K ()).bind fun y56 =>
          bif y56 then
            bif (y2 == v43) then
              bif (257 == v55) then
                some true
              else
                some (257 == (IntKind.wrap .i64 (v55 + 1)))
            else
              bif (y2 == (IntKind.wrap .i64 (v43 - 1))) then
                bif (257 == v55) then
                  some true
                else
                  some (257 == (IntKind.wrap .i64 (v55 + 1)))
              else
                some false
          else
            some false
        else
          (f42.F K a0).bind fun y64 =>
          (f42.F K a1).bind fun y65 =>
          let v66 := maxE y64 y65
          (f51.F K ()).bind fun y67 =>
          bif y67 then
            bif (y2 == v43) then
              bif (y51 == v66) then
                some true
              else
                some (y51 == (IntKind.wrap .i64 (v66 + 1)))
            else
              bif (y2 == (IntKind.wrap .i64 (v43 - 1))) then
                bif (y51 == v66) then
                  some true
                else
                  some (y51 == (IntKind.wrap .i64 (v66 + 1)))
              else
                some false
          else
            some false
def f8.F (K : Nat) (x : List Int × List Int) : Option (Bool) := f8.T K x.1 x.2
def f8.av (x : List Int × List Int) : List VV := [.agg [.ints .u64 4 x.1], .agg [.ints .u64 4 x.2]]
def f8.bl (_x : List Int × List Int) : List (Nat × Blk) := []
def f8.inA : VS → Option (List Int × List Int)
  | ⟨[(0, .agg [.ints .u64 4 a0]), (1, .agg [.ints .u64 4 a1])], [], 0⟩ => some (a0, a1)
  | _ => none
def f8.o0 (y : Bool) : VS := ⟨[(0, .bool y)], [], 0⟩
def f8.des : ∀ α : Type, Bool → (VS → Option α) → Option α := (dv1 f8.o0)
def f8.out : Bool → VS := f8.o0
def f8.inR : VS → Option (Bool)
  | ⟨[(0, .bool y)], [], 0⟩ => some y
  | _ => none
noncomputable def f8.E (K : Nat) : Entry := genE 0 f8.inA (f8.F K) f8.des
theorem f8.eq (K : Nat) (x : List Int × List Int) : f8.F K x = xrun (getA tys) (tabSp (f8.tab K)) Try.f8.ntmps 0 (f8.lp K) 400 f8.c ⟨initL 0 (f8.av x), f8.bl x, 0⟩ (contF (getA tys) 0 Try.f8.results.toList f8.inR) := by kernel_rfl
theorem f8.ok (K : Nat) : EntryOK Try.prog 8 (f8.E K) :=
  gen_ok mix tys_ok (f8.tabOK K) Try.func8 (by kernel_rfl : Try.f8.body = some f8.c) (by kernel_rfl) (f8.loops K) (av := f8.av) (bl := f8.bl) (out := f8.out) (fuel := 400)
    (by intro s x h; unfold f8.inA at h; split at h <;> simp at h; subst h; rfl) (fun _ => Nat.le_of_ble_eq_true rfl)
    (by intro s y h; unfold f8.inR at h; split at h <;> simp at h <;> subst h <;> rfl) (fun _ _ _ => rfl) (f8.eq K)
end Go.Proofs

namespace Go.Proofs
open Go.VM
/-! ### burrow/burrowlaw02.LimbsMoves -/
noncomputable def f9.c : Code := bodyOf Try.f9
def f9.lp (_ : Nat) : Nat → Option (Hint × Summ) := fun _ => none
noncomputable def f9.tab (K : Nat) : List (Nat × Entry) := [(38, (f38.E K)), (32, (f32.E K)), (34, (f34.E K)), (51, (f51.E K)), (40, (f40.E K)), (42, (f42.E K))]
theorem f9.tabOK (K : Nat) : SpecOK Try.prog (tabSp (f9.tab K)) := tab_ok ((tab_cons (f38.ok K) (tab_cons (f32.ok K) (tab_cons (f34.ok K) (tab_cons (f51.ok K) (tab_cons (f40.ok K) (tab_cons (f42.ok K) tab_nil)))))))
theorem f9.loops (K : Nat) : LoopsOK Try.prog 106 0 (f9.lp K) f9.c := loops_ok (by
  have h : loopsIn (f9.lp K) f9.c = [] := by kernel_rfl
  rw [h]; simp)
def f9.T (K : Nat) (a0 : List Int) (a1 : Int) (a2 : Int) : Option (Bool) :=
  (f38.F K (a0, (IntKind.wrap .i64 a1))).bind fun y2 =>
  (f38.F K (y2, (IntKind.wrap .i64 a2))).bind fun y4 =>
  (f38.F K (a0, (IntKind.wrap .i64 (0 - (IntKind.wrap .i64 a1))))).bind fun y7 =>
  (f38.F K (y7, (IntKind.wrap .i64 (0 - (IntKind.wrap .i64 a2))))).bind fun y10 =>
  (f32.F K (a0, a0)).bind fun y11 =>
  (f38.F K (a0, (IntKind.wrap .i64 (0 - (IntKind.wrap .i64 a1))))).bind fun y14 =>
  (f38.F K (y14, (IntKind.wrap .i64 a1))).bind fun y16 =>
  (f34.F K (a0, y16)).bind fun y17 =>
  (f51.F K ()).bind fun y18 =>
  bif y18 then
    (f38.F K (a0, (IntKind.wrap .i64 ((IntKind.wrap .i64 a1) + (IntKind.wrap .i64 a2))))).bind fun y22 =>
    bif (eqL 4 y4 y22 && true) then
      (f38.F K (a0, (IntKind.wrap .i64 ((IntKind.wrap .i64 (0 - (IntKind.wrap .i64 a1))) - (IntKind.wrap .i64 a2))))).bind fun y28 =>
      bif (eqL 4 y10 y28 && true) then
        (f38.F K (a0, 1)).bind fun y30 =>
        bif (eqL 4 y11.1 y30 && true) then
          (f40.F K (a0, 255)).bind fun y32 =>
          bif (y11.2 == y32) then
            (f42.F K y17.1).bind fun y34 =>
            bif (decide (y34 ≤ (IntKind.wrap .i64 a1))) then
              (f38.F K (a0, (IntKind.wrap .i64 (256 - (IntKind.wrap .i64 a1))))).bind fun y39 =>
              (f38.F K (y39, (IntKind.wrap .i64 ((IntKind.wrap .i64 a1) - 256)))).bind fun y42 =>
              some (eqL 4 y17.1 y42 && true)
            else
              some false
          else
            some false
        else
          some false
      else
        some false
    else
      some false
  else
    some false
def f9.F (K : Nat) (x : List Int × Int × Int) : Option (Bool) := f9.T K x.1 x.2.1 x.2.2
def f9.av (x : List Int × Int × Int) : List VV := [.agg [.ints .u64 4 x.1], .int .u8 x.2.1, .int .u8 x.2.2]
def f9.bl (_x : List Int × Int × Int) : List (Nat × Blk) := []
def f9.inA : VS → Option (List Int × Int × Int)
  | ⟨[(0, .agg [.ints .u64 4 a0]), (1, .int .u8 a1), (2, .int .u8 a2)], [], 0⟩ => some (a0, a1, a2)
  | _ => none
def f9.o0 (y : Bool) : VS := ⟨[(0, .bool y)], [], 0⟩
def f9.des : ∀ α : Type, Bool → (VS → Option α) → Option α := (dv1 f9.o0)
def f9.out : Bool → VS := f9.o0
def f9.inR : VS → Option (Bool)
  | ⟨[(0, .bool y)], [], 0⟩ => some y
  | _ => none
noncomputable def f9.E (K : Nat) : Entry := genE 0 f9.inA (f9.F K) f9.des
theorem f9.eq (K : Nat) (x : List Int × Int × Int) : f9.F K x = xrun (getA tys) (tabSp (f9.tab K)) Try.f9.ntmps 0 (f9.lp K) 400 f9.c ⟨initL 0 (f9.av x), f9.bl x, 0⟩ (contF (getA tys) 0 Try.f9.results.toList f9.inR) := by kernel_rfl
theorem f9.ok (K : Nat) : EntryOK Try.prog 9 (f9.E K) :=
  gen_ok mix tys_ok (f9.tabOK K) Try.func9 (by kernel_rfl : Try.f9.body = some f9.c) (by kernel_rfl) (f9.loops K) (av := f9.av) (bl := f9.bl) (out := f9.out) (fuel := 400)
    (by intro s x h; unfold f9.inA at h; split at h <;> simp at h; subst h; rfl) (fun _ => Nat.le_of_ble_eq_true rfl)
    (by intro s y h; unfold f9.inR at h; split at h <;> simp at h <;> subst h <;> rfl) (fun _ _ _ => rfl) (f9.eq K)
end Go.Proofs
