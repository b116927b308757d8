/- Plain laws: lemmas that hold with no condition but those that each states. -/
import Derived.Test.YtlncodfolaoilaaQ6
import Derived.Test.YtlncodfolaoilaaQ7
import Derived.Test.YtlncodfolaoilaaQ2
import Derived.Test.YtlncodfolaoilaaProg
import Derived.KernelRfl
namespace Go.Proofs
open Go.VM
theorem mix : Try.prog.follows .mixedOrders = true := by kernel_rfl
noncomputable def bodyOf (f : Func) : Code := f.body.getD .skip
def ti3 : TI := ⟨1, (Go.TypeDesc.int Go.IntKind.i64), [.int .i64 0], 0, [], false, 0⟩
theorem ty3 : TyOK Try.prog 3 ti3 := ⟨by kernel_rfl, by kernel_rfl, rfl, rfl, rfl, rfl, trivial, trivial, fun h => absurd rfl h, fun h => by cases h⟩
def ti4 : TI := ⟨1, Go.TypeDesc.bool, [.bool false], 0, [], false, 0⟩
theorem ty4 : TyOK Try.prog 4 ti4 := ⟨by kernel_rfl, by kernel_rfl, rfl, rfl, rfl, rfl, trivial, trivial, fun h => absurd rfl h, fun h => by cases h⟩
def ti5 : TI := ⟨1, (Go.TypeDesc.int Go.IntKind.u8), [.int .u8 0], 0, [], false, 1⟩
theorem ty5 : TyOK Try.prog 5 ti5 := ⟨by kernel_rfl, by kernel_rfl, rfl, rfl, rfl, rfl, trivial, trivial, fun _ => by kernel_rfl, fun h => by cases h⟩
def ti9 : TI := ⟨1, Go.TypeDesc.string, [.str ByteArray.empty], 0, [], false, 0⟩
theorem ty9 : TyOK Try.prog 9 ti9 := ⟨by kernel_rfl, by kernel_rfl, rfl, rfl, rfl, rfl, trivial, trivial, fun h => absurd rfl h, fun h => by cases h⟩
def ti22 : TI := ⟨1, .slice 5, [.raw (.slice none 0 0)], 1, [], false, 0⟩
theorem ty22 : TyOK Try.prog 22 ti22 := ⟨by kernel_rfl, by kernel_rfl, rfl, rfl, rfl, rfl, by show _ = _; kernel_rfl, trivial, fun h => absurd rfl h, fun h => by cases h⟩
def ti23 : TI := ⟨1, (Go.TypeDesc.pointer 30), [.raw (.pointer none)], 0, [], false, 0⟩
theorem ty23 : TyOK Try.prog 23 ti23 := ⟨by kernel_rfl, by kernel_rfl, rfl, rfl, rfl, rfl, trivial, trivial, fun h => absurd rfl h, fun h => by cases h⟩
def ti24 : TI := ⟨1, (Go.TypeDesc.pointer 110), [.raw (.pointer none)], 0, [], false, 0⟩
theorem ty24 : TyOK Try.prog 24 ti24 := ⟨by kernel_rfl, by kernel_rfl, rfl, rfl, rfl, rfl, trivial, trivial, fun h => absurd rfl h, fun h => by cases h⟩
def ti25 : TI := ⟨64, .array 64 5, [.ints .u8 64 [0, 0, 0, 0, 0, 0, 0, 0, 0, 0, 0, 0, 0, 0, 0, 0, 0, 0, 0, 0, 0, 0, 0, 0, 0, 0, 0, 0, 0, 0, 0, 0, 0, 0, 0, 0, 0, 0, 0, 0, 0, 0, 0, 0, 0, 0, 0, 0, 0, 0, 0, 0, 0, 0, 0, 0, 0, 0, 0, 0, 0, 0, 0, 0]], 1, [], true, 0⟩
theorem ty25 : TyOK Try.prog 25 ti25 := ⟨by kernel_rfl, by kernel_rfl, rfl, rfl, rfl, rfl, by show _ = _; kernel_rfl, trivial, fun h => absurd rfl h, fun _ => eqs_arr (e := 5) (by kernel_rfl) (by kernel_rfl) ⟨.u8, by kernel_rfl⟩ (by kernel_rfl)⟩
def ti27 : TI := ⟨65, (Go.TypeDesc.struct #[{ name := "b", type := 25, offset := 0, embedded := false, tag := "", pkgPath := "burrow/shas", byteOffset := 0 }, { name := "many", type := 3, offset := 64, embedded := false, tag := "", pkgPath := "burrow/shas", byteOffset := 64 }]), [.ints .u8 64 [0, 0, 0, 0, 0, 0, 0, 0, 0, 0, 0, 0, 0, 0, 0, 0, 0, 0, 0, 0, 0, 0, 0, 0, 0, 0, 0, 0, 0, 0, 0, 0, 0, 0, 0, 0, 0, 0, 0, 0, 0, 0, 0, 0, 0, 0, 0, 0, 0, 0, 0, 0, 0, 0, 0, 0, 0, 0, 0, 0, 0, 0, 0, 0], .int .i64 0], 0, [64, 1], false, 0⟩
theorem ty27 : TyOK Try.prog 27 ti27 := ⟨by kernel_rfl, by kernel_rfl, rfl, rfl, rfl, rfl, trivial, by show _ = _; kernel_rfl, fun h => absurd rfl h, fun h => by cases h⟩
def ti28 : TI := ⟨1, (Go.TypeDesc.int Go.IntKind.u64), [.int .u64 0], 0, [], false, 0⟩
theorem ty28 : TyOK Try.prog 28 ti28 := ⟨by kernel_rfl, by kernel_rfl, rfl, rfl, rfl, rfl, trivial, trivial, fun h => absurd rfl h, fun h => by cases h⟩
def ti30 : TI := ⟨67, (Go.TypeDesc.struct #[{ name := "s", type := 24, offset := 0, embedded := false, tag := "", pkgPath := "burrow/shas", byteOffset := 0 }, { name := "x", type := 27, offset := 1, embedded := false, tag := "", pkgPath := "burrow/shas", byteOffset := 8 }, { name := "many", type := 28, offset := 66, embedded := false, tag := "", pkgPath := "burrow/shas", byteOffset := 80 }]), [.raw (.pointer none), .ints .u8 64 [0, 0, 0, 0, 0, 0, 0, 0, 0, 0, 0, 0, 0, 0, 0, 0, 0, 0, 0, 0, 0, 0, 0, 0, 0, 0, 0, 0, 0, 0, 0, 0, 0, 0, 0, 0, 0, 0, 0, 0, 0, 0, 0, 0, 0, 0, 0, 0, 0, 0, 0, 0, 0, 0, 0, 0, 0, 0, 0, 0, 0, 0, 0, 0], .int .i64 0, .int .u64 0], 0, [1, 65, 1], false, 0⟩
theorem ty30 : TyOK Try.prog 30 ti30 := ⟨by kernel_rfl, by kernel_rfl, rfl, rfl, rfl, rfl, trivial, by show _ = _; kernel_rfl, fun h => absurd rfl h, fun h => by cases h⟩
def ti31 : TI := ⟨1, .slice 23, [.raw (.slice none 0 0)], 1, [], false, 0⟩
theorem ty31 : TyOK Try.prog 31 ti31 := ⟨by kernel_rfl, by kernel_rfl, rfl, rfl, rfl, rfl, by show _ = _; kernel_rfl, trivial, fun h => absurd rfl h, fun h => by cases h⟩
def ti35 : TI := ⟨32, .array 32 5, [.ints .u8 32 [0, 0, 0, 0, 0, 0, 0, 0, 0, 0, 0, 0, 0, 0, 0, 0, 0, 0, 0, 0, 0, 0, 0, 0, 0, 0, 0, 0, 0, 0, 0, 0]], 1, [], true, 0⟩
theorem ty35 : TyOK Try.prog 35 ti35 := ⟨by kernel_rfl, by kernel_rfl, rfl, rfl, rfl, rfl, by show _ = _; kernel_rfl, trivial, fun h => absurd rfl h, fun _ => eqs_arr (e := 5) (by kernel_rfl) (by kernel_rfl) ⟨.u8, by kernel_rfl⟩ (by kernel_rfl)⟩
def ti44 : TI := ⟨1, (Go.TypeDesc.int Go.IntKind.u16), [.int .u16 0], 0, [], false, 0⟩
theorem ty44 : TyOK Try.prog 44 ti44 := ⟨by kernel_rfl, by kernel_rfl, rfl, rfl, rfl, rfl, trivial, trivial, fun h => absurd rfl h, fun h => by cases h⟩
def ti48 : TI := ⟨1, (Go.TypeDesc.int Go.IntKind.u32), [.int .u32 0], 0, [], false, 0⟩
theorem ty48 : TyOK Try.prog 48 ti48 := ⟨by kernel_rfl, by kernel_rfl, rfl, rfl, rfl, rfl, trivial, trivial, fun h => absurd rfl h, fun h => by cases h⟩
def ti63 : TI := ⟨1, (Go.TypeDesc.int Go.IntKind.u64), [.int .u64 0], 0, [], false, 0⟩
theorem ty63 : TyOK Try.prog 63 ti63 := ⟨by kernel_rfl, by kernel_rfl, rfl, rfl, rfl, rfl, trivial, trivial, fun h => absurd rfl h, fun h => by cases h⟩
def ti88 : TI := ⟨8, .array 8 48, [.ints .u32 8 [0, 0, 0, 0, 0, 0, 0, 0]], 1, [], true, 0⟩
theorem ty88 : TyOK Try.prog 88 ti88 := ⟨by kernel_rfl, by kernel_rfl, rfl, rfl, rfl, rfl, by show _ = _; kernel_rfl, trivial, fun h => absurd rfl h, fun _ => eqs_arr (e := 48) (by kernel_rfl) (by kernel_rfl) ⟨.u32, by kernel_rfl⟩ (by kernel_rfl)⟩
def ti89 : TI := ⟨1, .slice 48, [.raw (.slice none 0 0)], 1, [], false, 0⟩
theorem ty89 : TyOK Try.prog 89 ti89 := ⟨by kernel_rfl, by kernel_rfl, rfl, rfl, rfl, rfl, by show _ = _; kernel_rfl, trivial, fun h => absurd rfl h, fun h => by cases h⟩
def ti93 : TI := ⟨1, .slice 22, [.raw (.slice none 0 0)], 1, [], false, 0⟩
theorem ty93 : TyOK Try.prog 93 ti93 := ⟨by kernel_rfl, by kernel_rfl, rfl, rfl, rfl, rfl, by show _ = _; kernel_rfl, trivial, fun h => absurd rfl h, fun h => by cases h⟩
def ti110 : TI := ⟨8, .array 8 48, [.ints .u32 8 [0, 0, 0, 0, 0, 0, 0, 0]], 1, [], true, 0⟩
theorem ty110 : TyOK Try.prog 110 ti110 := ⟨by kernel_rfl, by kernel_rfl, rfl, rfl, rfl, rfl, by show _ = _; kernel_rfl, trivial, fun h => absurd rfl h, fun _ => eqs_arr (e := 48) (by kernel_rfl) (by kernel_rfl) ⟨.u32, by kernel_rfl⟩ (by kernel_rfl)⟩
def ti112 : TI := ⟨1, (Go.TypeDesc.pointer 27), [.raw (.pointer none)], 0, [], false, 0⟩
theorem ty112 : TyOK Try.prog 112 ti112 := ⟨by kernel_rfl, by kernel_rfl, rfl, rfl, rfl, rfl, trivial, trivial, fun h => absurd rfl h, fun h => by cases h⟩
def ti114 : TI := ⟨64, .array 64 48, [.ints .u32 64 [0, 0, 0, 0, 0, 0, 0, 0, 0, 0, 0, 0, 0, 0, 0, 0, 0, 0, 0, 0, 0, 0, 0, 0, 0, 0, 0, 0, 0, 0, 0, 0, 0, 0, 0, 0, 0, 0, 0, 0, 0, 0, 0, 0, 0, 0, 0, 0, 0, 0, 0, 0, 0, 0, 0, 0, 0, 0, 0, 0, 0, 0, 0, 0]], 1, [], true, 0⟩
theorem ty114 : TyOK Try.prog 114 ti114 := ⟨by kernel_rfl, by kernel_rfl, rfl, rfl, rfl, rfl, by show _ = _; kernel_rfl, trivial, fun h => absurd rfl h, fun _ => eqs_arr (e := 48) (by kernel_rfl) (by kernel_rfl) ⟨.u32, by kernel_rfl⟩ (by kernel_rfl)⟩
def ti131 : TI := ⟨1, .slice 28, [.raw (.slice none 0 0)], 1, [], false, 0⟩
theorem ty131 : TyOK Try.prog 131 ti131 := ⟨by kernel_rfl, by kernel_rfl, rfl, rfl, rfl, rfl, by show _ = _; kernel_rfl, trivial, fun h => absurd rfl h, fun h => by cases h⟩
def ti146 : TI := ⟨16, .array 16 48, [.ints .u32 16 [0, 0, 0, 0, 0, 0, 0, 0, 0, 0, 0, 0, 0, 0, 0, 0]], 1, [], true, 0⟩
theorem ty146 : TyOK Try.prog 146 ti146 := ⟨by kernel_rfl, by kernel_rfl, rfl, rfl, rfl, rfl, by show _ = _; kernel_rfl, trivial, fun h => absurd rfl h, fun _ => eqs_arr (e := 48) (by kernel_rfl) (by kernel_rfl) ⟨.u32, by kernel_rfl⟩ (by kernel_rfl)⟩
def ti148 : TI := ⟨1, .slice 3, [.raw (.slice none 0 0)], 1, [], false, 0⟩
theorem ty148 : TyOK Try.prog 148 ti148 := ⟨by kernel_rfl, by kernel_rfl, rfl, rfl, rfl, rfl, by show _ = _; kernel_rfl, trivial, fun h => absurd rfl h, fun h => by cases h⟩
def ti151 : TI := ⟨8, .array 8 5, [.ints .u8 8 [0, 0, 0, 0, 0, 0, 0, 0]], 1, [], true, 0⟩
theorem ty151 : TyOK Try.prog 151 ti151 := ⟨by kernel_rfl, by kernel_rfl, rfl, rfl, rfl, rfl, by show _ = _; kernel_rfl, trivial, fun h => absurd rfl h, fun _ => eqs_arr (e := 5) (by kernel_rfl) (by kernel_rfl) ⟨.u8, by kernel_rfl⟩ (by kernel_rfl)⟩
def tys : Tab := [(3, ti3), (4, ti4), (5, ti5), (9, ti9), (22, ti22), (23, ti23), (24, ti24), (25, ti25), (27, ti27), (28, ti28), (30, ti30), (31, ti31), (35, ti35), (44, ti44), (48, ti48), (63, ti63), (88, ti88), (89, ti89), (93, ti93), (110, ti110), (112, ti112), (114, ti114), (131, ti131), (146, ti146), (148, ti148), (151, ti151)]
theorem tys_ok : TyAll Try.prog (getA tys) := tyAll_of (by
  intro p hp
  simp only [tys, List.mem_cons, List.not_mem_nil, or_false] at hp
  rcases hp with rfl | rfl | rfl | rfl | rfl | rfl | rfl | rfl | rfl | rfl | rfl | rfl | rfl | rfl | rfl | rfl | rfl | rfl | rfl | rfl | rfl | rfl | rfl | rfl | rfl | rfl
  · exact ty3
  · exact ty4
  · exact ty5
  · exact ty9
  · exact ty22
  · exact ty23
  · exact ty24
  · exact ty25
  · exact ty27
  · exact ty28
  · exact ty30
  · exact ty31
  · exact ty35
  · exact ty44
  · exact ty48
  · exact ty63
  · exact ty88
  · exact ty89
  · exact ty93
  · exact ty110
  · exact ty112
  · exact ty114
  · exact ty131
  · exact ty146
  · exact ty148
  · exact ty151)
end Go.Proofs

namespace Go.Proofs
open Go.VM
def f91.T (_K : Nat) (a0 : Int) (a1 : Int) : Option (Int) :=
  let v2 := bits .and .u64 (IntKind.wrap .u64 a1) 31
  bif decide (0 ≤ v2) then
    let v4 := IntKind.wrap .u64 (32 - v2)
    bif decide (0 ≤ v4) then
      some (bits .or .u32 (shiftI .shl .u32 a0 v2) (shiftI .shr .u32 a0 v4))
    else
      none
  else
    none
def f91.F (K : Nat) (x : Int × Int) : Option (Int) := f91.T K x.1 x.2
def f91.av (x : Int × Int) : List VV := [.int .u32 x.1, .int .i64 x.2]
def f91.bl (_x : Int × Int) : List (Nat × Blk) := []
def f91.inA : VS → Option (Int × Int)
  | ⟨[(0, .int .u32 a0), (1, .int .i64 a1)], [], 0⟩ => some (a0, a1)
  | _ => none
def f91.o0 (y : Int) : VS := ⟨[(0, .int .u32 y)], [], 0⟩
def f91.inR : VS → Option (Int)
  | ⟨[(0, .int .u32 y)], [], 0⟩ => some y
  | _ => none
noncomputable def f91.E (K : Nat) : Entry := genE 0 f91.inA (f91.F K) (dv1 f91.o0)
theorem f91.ok (K : Nat) : EntryOK Try.prog 91 (f91.E K) := gen_ok mix tys_ok (tab_ok ( tab_nil)) Try.func91 (c := bodyOf Try.f91) (by kernel_rfl) (by kernel_rfl) (loops_none (lp := lpNone) (by kernel_rfl)) (av := f91.av) (bl := f91.bl) (inR := f91.inR) (out := f91.o0) (fuel := 400)
  (by intro s x h; unfold f91.inA at h; split at h <;> simp at h; subst h; rfl) (fun _ => Nat.le_of_ble_eq_true rfl)
  (by intro s y h; unfold f91.inR at h; split at h <;> simp at h <;> subst h <;> rfl) (fun _ _ _ => rfl) (fun _ => by kernel_rfl)
end Go.Proofs

namespace Go.Proofs
open Go.VM
abbrev f78.Ty0 := Int × Int × Nat × Int × Int × Nat × List Int
abbrev f78.Ty1 := Int × Nat × Nat × List Int
abbrev f78.Ty2 := Int × Nat × List Int
noncomputable def f78.c : Code := bodyOf Try.f78
def f78.s0t (K : Nat) (rec : f78.Ty0 → Option (f78.Ty2)) (t0 : Int) (t5 : Int) (t8 : Nat) (t9 : Int) (t10 : Int) (b0_0 : Nat) (b0_1 : List Int) : Option (f78.Ty2) :=
  bif (decide (t10 < t9)) then
    bif decide (0 ≤ t10 ∧ t10 < ((t8 : Nat) : Int)) then
      let v3 := 0 + (Int.toNat t10)
      bif Nat.blt v3 b0_0 then
        (f91.F K (t0, (IntKind.wrap .i64 (0 - (List.getD b0_1 v3 0))))).bind fun y6 =>
        rec (t0, (bits .xor .u32 t5 y6), t8, t9, (IntKind.wrap .i64 (t10 + 1)), b0_0, b0_1)
      else
        none
    else
      none
  else
    some (t5, b0_0, b0_1)
def f78.s0 (K : Nat) (rec : f78.Ty0 → Option (f78.Ty2)) (x : f78.Ty0) : Option (f78.Ty2) := f78.s0t K rec x.1 x.2.1 x.2.2.1 x.2.2.2.1 x.2.2.2.2.1 x.2.2.2.2.2.1 x.2.2.2.2.2.2
noncomputable def f78.s0.b : Code := (findLoop 0 f78.c).getD .skip
def f78.s0.h : Hint := { lv := [0, 5, 8, 9, 10] }
def f78.s0.ho : Hint := { lv := [5] }
def f78.s0.shp (x : f78.Ty0) : VS := ⟨[(0, .int .u32 x.1), (5, .int .u32 x.2.1), (8, .vw true 0 0 x.2.2.1 1), (9, .int .i64 x.2.2.2.1), (10, .int .i64 x.2.2.2.2.1)], [(0, ([.ints .i64 x.2.2.2.2.2.1 x.2.2.2.2.2.2], 0, .ro))], 2⟩
def f78.s0.inX : VS → Option (f78.Ty0)
  | ⟨[(0, .int .u32 t0), (5, .int .u32 t5), (8, .vw true 0 0 t8 1), (9, .int .i64 t9), (10, .int .i64 t10)], [(0, ([.ints .i64 b0_0 b0_1], 0, .ro))], 2⟩ => some (t0, t5, t8, t9, t10, b0_0, b0_1)
  | _ => none
def f78.s0.o0 (y : f78.Ty2) : VS := ⟨[(5, .int .u32 y.1)], [(0, ([.ints .i64 y.2.1 y.2.2], 0, .ro))], 2⟩
def f78.s0.des : ∀ α : Type, (f78.Ty2) → (Ex → VS → Option α) → Option α := (des1 (.exit 0) f78.s0.o0)
def f78.s0.out : f78.Ty2 → Ex × VS := (fun y => (.exit 0, f78.s0.o0 y))
theorem f78.s0.desOK : ∀ α y (k : Ex → VS → Option α), f78.s0.des α y k = k (f78.s0.out y).1 (f78.s0.out y).2 := (fun _ _ _ => rfl)
def f78.s0.inY : Ex → VS → Option (f78.Ty2)
  | .exit 0, ⟨[(5, .int .u32 t5)], [(0, ([.ints .i64 b0_0 b0_1], 0, .ro))], 2⟩ => some (t5, b0_0, b0_1)
  | _, _ => none
def f78.lp (K : Nat) : Nat → Option (Hint × Summ) := tabLp [(0, f78.s0.h, summOf (iter (f78.s0 K) K) f78.s0.inX f78.s0.des)]
noncomputable def f78.tab (K : Nat) : List (Nat × Entry) := [(91, (f91.E K))]
theorem f78.tabOK (K : Nat) : SpecOK Try.prog (tabSp (f78.tab K)) := tab_ok ((tab_cons (f91.ok K) tab_nil))
theorem f78.s0.eq (K : Nat) (rec : f78.Ty0 → Option (f78.Ty2)) (x : f78.Ty0) : f78.s0 K rec x = roundL (getA tys) (tabSp (f78.tab K)) 22 2 (f78.lp K) 400 f78.s0.b f78.s0.h f78.s0.ho f78.s0.shp f78.s0.inX f78.s0.inY rec x := by kernel_rfl
theorem f78.s0.lok (K : Nat) : LoopsOK Try.prog 22 2 (f78.lp K) f78.s0.b := loops_ok (by
  have h : loopsIn (f78.lp K) f78.s0.b = [] := by kernel_rfl
  rw [h]; simp)
theorem f78.s0.ok (K : Nat) : SummOK Try.prog 22 2 (summOf (iter (f78.s0 K) K) f78.s0.inX f78.s0.des) f78.s0.b :=
  loop_ok mix tys_ok (f78.tabOK K) (h := f78.s0.h) (ho := f78.s0.ho) (shp := f78.s0.shp) (inX := f78.s0.inX) (des := f78.s0.des) (out := f78.s0.out) (inY := f78.s0.inY) (fuel := 400)
    (by intro st x h; unfold f78.s0.inX at h; split at h <;> simp at h; subst h; rfl)
    (by intro e st y h; unfold f78.s0.inY at h; split at h <;> simp at h <;> subst h <;> rfl)
    f78.s0.desOK (f78.s0.lok K) (f78.s0 K) (f78.s0.eq K) K
theorem f78.loops (K : Nat) : LoopsOK Try.prog 22 2 (f78.lp K) f78.c := loops_ok (by
  have h : loopsIn (f78.lp K) f78.c = [(0, f78.s0.b)] := by kernel_rfl
  rw [h]
  intro p hp
  simp only [List.mem_cons, List.not_mem_nil, or_false] at hp
  rcases hp with rfl
  · exact ⟨_, rfl, (f78.s0.ok K)⟩)
def f78.T (K : Nat) (a0 : Int) (a1 : Nat) (m0_0 : Nat) (m0_1 : List Int) : Option (f78.Ty2) :=
  (iter (f78.s0 K) K (a0, 0, a1, ((a1 : Nat) : Int), 0, m0_0, m0_1)).bind fun y9 =>
  some (y9.1, y9.2.1, y9.2.2)
def f78.F (K : Nat) (x : f78.Ty1) : Option (f78.Ty2) := f78.T K x.1 x.2.1 x.2.2.1 x.2.2.2
def f78.av (x : f78.Ty1) : List VV := [.int .u32 x.1, .vw true 0 0 x.2.1 1]
def f78.bl (x : f78.Ty1) : List (Nat × Blk) := [(0, ([.ints .i64 x.2.2.1 x.2.2.2], 0, .ro))]
def f78.inA : VS → Option (f78.Ty1)
  | ⟨[(0, .int .u32 a0), (1, .vw true 0 0 a1 1)], [(0, ([.ints .i64 m0_0 m0_1], 0, .ro))], 2⟩ => some (a0, a1, m0_0, m0_1)
  | _ => none
def f78.o0 (y : f78.Ty2) : VS := ⟨[(0, .int .u32 y.1)], [(0, ([.ints .i64 y.2.1 y.2.2], 0, .ro))], 2⟩
def f78.des : ∀ α : Type, (f78.Ty2) → (VS → Option α) → Option α := (dv1 f78.o0)
def f78.out : f78.Ty2 → VS := f78.o0
def f78.inR : VS → Option (f78.Ty2)
  | ⟨[(0, .int .u32 y)], [(0, ([.ints .i64 z0_0 z0_1], 0, .ro))], 2⟩ => some (y, z0_0, z0_1)
  | _ => none
noncomputable def f78.E (K : Nat) : Entry := genE 2 f78.inA (f78.F K) f78.des
theorem f78.eq (K : Nat) (x : f78.Ty1) : f78.F K x = xrun (getA tys) (tabSp (f78.tab K)) Try.f78.ntmps 2 (f78.lp K) 400 f78.c ⟨initL 0 (f78.av x), f78.bl x, 2⟩ (contF (getA tys) 2 Try.f78.results.toList f78.inR) := by kernel_rfl
theorem f78.ok (K : Nat) : EntryOK Try.prog 78 (f78.E K) :=
  gen_ok mix tys_ok (f78.tabOK K) Try.func78 (by kernel_rfl : Try.f78.body = some f78.c) (by kernel_rfl) (f78.loops K) (av := f78.av) (bl := f78.bl) (out := f78.out) (fuel := 400)
    (by intro s x h; unfold f78.inA at h; split at h <;> simp at h; subst h; rfl) (fun _ => Nat.le_of_ble_eq_true rfl)
    (by intro s y h; unfold f78.inR at h; split at h <;> simp at h <;> subst h <;> rfl) (fun _ _ _ => rfl) (f78.eq K)
end Go.Proofs

namespace Go.Proofs
open Go.VM
abbrev f83.Ty0 := Int × Int × Nat × List Int × List Int
abbrev f83.Ty1 := Int × Int × Nat × List Int
abbrev f83.Ty2 := Nat × Int × Nat × List Int
abbrev f83.Ty3 := Int × Nat × List Int
noncomputable def f83.c : Code := bodyOf Try.f83
def f83.s0t (_K : Nat) (rec : f83.Ty0 → Option (f83.Ty3)) (t4 : Int) (t23 : Int) (b0_0 : Nat) (b0_1 : List Int) (b2 : List Int) : Option (f83.Ty3) :=
  bif (decide (t23 < 8)) then
    bif decide (0 ≤ t23 ∧ t23 < 8) then
      rec ((IntKind.wrap .u64 ((IntKind.wrap .u64 (256 * t4)) + (IntKind.wrap .u64 (List.getD b2 (Int.toNat t23) 0)))), (IntKind.wrap .i64 (t23 + 1)), b0_0, b0_1, b2)
    else
      none
  else
    some (t4, b0_0, b0_1)
def f83.s0 (K : Nat) (rec : f83.Ty0 → Option (f83.Ty3)) (x : f83.Ty0) : Option (f83.Ty3) := f83.s0t K rec x.1 x.2.1 x.2.2.1 x.2.2.2.1 x.2.2.2.2
noncomputable def f83.s0.b : Code := (findLoop 0 f83.c).getD .skip
def f83.s0.h : Hint := { lv := [4, 6, 23] }
def f83.s0.ho : Hint := { lv := [4] }
def f83.s0.shp (x : f83.Ty0) : VS := ⟨[(4, .int .u64 x.1), (6, .ptr 2 0), (23, .int .i64 x.2.1)], [(0, ([.ints .u8 x.2.2.1 x.2.2.2.1], 0, .ro)), (2, ([.ints .u8 8 x.2.2.2.2], 151, .norm))], 3⟩
def f83.s0.inX : VS → Option (f83.Ty0)
  | ⟨[(4, .int .u64 t4), (6, .ptr 2 0), (23, .int .i64 t23)], [(0, ([.ints .u8 b0_0 b0_1], 0, .ro)), (2, ([.ints .u8 8 b2], 151, .norm))], 3⟩ => some (t4, t23, b0_0, b0_1, b2)
  | _ => none
def f83.s0.o0 (y : f83.Ty3) : VS := ⟨[(4, .int .u64 y.1)], [(0, ([.ints .u8 y.2.1 y.2.2], 0, .ro))], 2⟩
def f83.s0.des : ∀ α : Type, (f83.Ty3) → (Ex → VS → Option α) → Option α := (des1 (.exit 0) f83.s0.o0)
def f83.s0.out : f83.Ty3 → Ex × VS := (fun y => (.exit 0, f83.s0.o0 y))
theorem f83.s0.desOK : ∀ α y (k : Ex → VS → Option α), f83.s0.des α y k = k (f83.s0.out y).1 (f83.s0.out y).2 := (fun _ _ _ => rfl)
def f83.s0.inY : Ex → VS → Option (f83.Ty3)
  | .exit 0, ⟨[(4, .int .u64 t4)], [(0, ([.ints .u8 b0_0 b0_1], 0, .ro))], 2⟩ => some (t4, b0_0, b0_1)
  | _, _ => none
def f83.lp (K : Nat) : Nat → Option (Hint × Summ) := tabLp [(0, f83.s0.h, summOf (iter (f83.s0 K) K) f83.s0.inX f83.s0.des)]
noncomputable def f83.tab (_K : Nat) : List (Nat × Entry) := []
theorem f83.tabOK (K : Nat) : SpecOK Try.prog (tabSp (f83.tab K)) := tab_ok ( tab_nil)
theorem f83.s0.eq (K : Nat) (rec : f83.Ty0 → Option (f83.Ty3)) (x : f83.Ty0) : f83.s0 K rec x = roundL (getA tys) (tabSp (f83.tab K)) 35 2 (f83.lp K) 400 f83.s0.b f83.s0.h f83.s0.ho f83.s0.shp f83.s0.inX f83.s0.inY rec x := by kernel_rfl
theorem f83.s0.lok (K : Nat) : LoopsOK Try.prog 35 2 (f83.lp K) f83.s0.b := loops_ok (by
  have h : loopsIn (f83.lp K) f83.s0.b = [] := by kernel_rfl
  rw [h]; simp)
theorem f83.s0.ok (K : Nat) : SummOK Try.prog 35 2 (summOf (iter (f83.s0 K) K) f83.s0.inX f83.s0.des) f83.s0.b :=
  loop_ok mix tys_ok (f83.tabOK K) (h := f83.s0.h) (ho := f83.s0.ho) (shp := f83.s0.shp) (inX := f83.s0.inX) (des := f83.s0.des) (out := f83.s0.out) (inY := f83.s0.inY) (fuel := 400)
    (by intro st x h; unfold f83.s0.inX at h; split at h <;> simp at h; subst h; rfl)
    (by intro e st y h; unfold f83.s0.inY at h; split at h <;> simp at h <;> subst h <;> rfl)
    f83.s0.desOK (f83.s0.lok K) (f83.s0 K) (f83.s0.eq K) K
theorem f83.loops (K : Nat) : LoopsOK Try.prog 35 2 (f83.lp K) f83.c := loops_ok (by
  have h : loopsIn (f83.lp K) f83.c = [(0, f83.s0.b)] := by kernel_rfl
  rw [h]
  intro p hp
  simp only [List.mem_cons, List.not_mem_nil, or_false] at hp
  rcases hp with rfl
  · exact ⟨_, rfl, (f83.s0.ok K)⟩)
def f83.T (K : Nat) (a0 : Nat) (a1 : Int) (m0_0 : Nat) (m0_1 : List Int) : Option (f83.Ty1) :=
  bif (decide (a1 < 0)) then
    some (0, 1, m0_0, m0_1)
  else
    bif (decide (a1 > 8)) then
      some (0, 1, m0_0, m0_1)
    else
      bif (decide (((a0 : Nat) : Int) < a1)) then
        some (0, 5, m0_0, m0_1)
      else
        let v5 := IntKind.wrap .i64 (8 - a1)
        bif decide (0 ≤ v5 ∧ v5 ≤ 8) then
          let v6 := bif Nat.beq 8 (Int.toNat v5) then 0 else 0 + (Int.toNat v5)
          let v7 := 8 - (Int.toNat v5)
          bif ((Nat.ble (0 + a0) m0_0 && (Nat.ble (v6 + v7) 8)) && (Nat.beq a0 a0)) then
            (iter (f83.s0 K) K (0, 0, m0_0, m0_1, (spl [0, 0, 0, 0, 0, 0, 0, 0] v6 (Nat.min a0 v7) (subI m0_1 0 a0)))).bind fun y18 =>
            some (y18.1, 0, y18.2.1, y18.2.2)
          else
            none
        else
          none
def f83.F (K : Nat) (x : f83.Ty2) : Option (f83.Ty1) := f83.T K x.1 x.2.1 x.2.2.1 x.2.2.2
def f83.av (x : f83.Ty2) : List VV := [.vw true 0 0 x.1 1, .int .i64 x.2.1]
def f83.bl (x : f83.Ty2) : List (Nat × Blk) := [(0, ([.ints .u8 x.2.2.1 x.2.2.2], 0, .ro))]
def f83.inA : VS → Option (f83.Ty2)
  | ⟨[(0, .vw true 0 0 a0 1), (1, .int .i64 a1)], [(0, ([.ints .u8 m0_0 m0_1], 0, .ro))], 2⟩ => some (a0, a1, m0_0, m0_1)
  | _ => none
def f83.o0 (y : f83.Ty1) : VS := ⟨[(0, .tup [.int .u64 y.1, .int .i64 y.2.1])], [(0, ([.ints .u8 y.2.2.1 y.2.2.2], 0, .ro))], 2⟩
def f83.des : ∀ α : Type, (f83.Ty1) → (VS → Option α) → Option α := (dv1 f83.o0)
def f83.out : f83.Ty1 → VS := f83.o0
def f83.inR : VS → Option (f83.Ty1)
  | ⟨[(0, .tup [.int .u64 y_0, .int .i64 y_1])], [(0, ([.ints .u8 z0_0 z0_1], 0, .ro))], 2⟩ => some (y_0, y_1, z0_0, z0_1)
  | _ => none
noncomputable def f83.E (K : Nat) : Entry := genE 2 f83.inA (f83.F K) f83.des
theorem f83.eq (K : Nat) (x : f83.Ty2) : f83.F K x = xrun (getA tys) (tabSp (f83.tab K)) Try.f83.ntmps 2 (f83.lp K) 400 f83.c ⟨initL 0 (f83.av x), f83.bl x, 2⟩ (contF (getA tys) 2 Try.f83.results.toList f83.inR) := by kernel_rfl
theorem f83.ok (K : Nat) : EntryOK Try.prog 83 (f83.E K) :=
  gen_ok mix tys_ok (f83.tabOK K) Try.func83 (by kernel_rfl : Try.f83.body = some f83.c) (by kernel_rfl) (f83.loops K) (av := f83.av) (bl := f83.bl) (out := f83.out) (fuel := 400)
    (by intro s x h; unfold f83.inA at h; split at h <;> simp at h; subst h; rfl) (fun _ => Nat.le_of_ble_eq_true rfl)
    (by intro s y h; unfold f83.inR at h; split at h <;> simp at h <;> subst h <;> rfl) (fun _ _ _ => rfl) (f83.eq K)
end Go.Proofs

namespace Go.Proofs
open Go.VM
abbrev f41.Ty0 := Nat × Nat × Nat × List Int × Nat × List Int
abbrev f41.Ty1 := Nat × Int × Int × Nat × List Int
def f41.T (K : Nat) (a0 : Nat) (a1 : Int) (a2 : Int) (m0_0 : Nat) (m0_1 : List Int) : Option (f41.Ty0) :=
  bif ((Nat.ble (0 + a0) m0_0 && true) && true) then
    (f63.F K (a0, (maxE 0 (minE 8 a2)), 1, a0, (subI m0_1 0 a0), 1, [a1])).bind fun y2 =>
    some (y2.1, y2.2.1, m0_0, m0_1, y2.2.2.2.2.2.2.1, y2.2.2.2.2.2.2.2)
  else
    none
def f41.F (K : Nat) (x : f41.Ty1) : Option (f41.Ty0) := f41.T K x.1 x.2.1 x.2.2.1 x.2.2.2.1 x.2.2.2.2
def f41.av (x : f41.Ty1) : List VV := [.vw true 0 0 x.1 1, .int .u64 x.2.1, .int .i64 x.2.2.1]
def f41.bl (x : f41.Ty1) : List (Nat × Blk) := [(0, ([.ints .u8 x.2.2.2.1 x.2.2.2.2], 0, .ro))]
def f41.inA : VS → Option (f41.Ty1)
  | ⟨[(0, .vw true 0 0 a0 1), (1, .int .u64 a1), (2, .int .i64 a2)], [(0, ([.ints .u8 m0_0 m0_1], 0, .ro))], 2⟩ => some (a0, a1, a2, m0_0, m0_1)
  | _ => none
def f41.o0 (y : f41.Ty0) : VS := ⟨[(0, .sl 2 0 y.1 y.2.1)], [(0, ([.ints .u8 y.2.2.1 y.2.2.2.1], 0, .ro)), (2, ([.ints .u8 y.2.2.2.2.1 y.2.2.2.2.2], 5, .norm))], 3⟩
def f41.inR : VS → Option (f41.Ty0)
  | ⟨[(0, .sl 2 0 y_0 y_1)], [(0, ([.ints .u8 z0_0 z0_1], 0, .ro)), (2, ([.ints .u8 z2_0 z2_1], 5, .norm))], 3⟩ => some (y_0, y_1, z0_0, z0_1, z2_0, z2_1)
  | _ => none
noncomputable def f41.E (K : Nat) : Entry := genE 2 f41.inA (f41.F K) (dv1 f41.o0)
theorem f41.ok (K : Nat) : EntryOK Try.prog 41 (f41.E K) := gen_ok mix tys_ok (sp := tabSp [(63, (viewE [(0, .u8), (2, .u64)] (f63.E K)))]) (tab_ok ((tab_cons (view_ok (f63.ok K)) tab_nil))) Try.func41 (c := bodyOf Try.f41) (by kernel_rfl) (by kernel_rfl) (loops_none (lp := lpNone) (by kernel_rfl)) (av := f41.av) (bl := f41.bl) (inR := f41.inR) (out := f41.o0) (fuel := 400)
  (by intro s x h; unfold f41.inA at h; split at h <;> simp at h; subst h; rfl) (fun _ => Nat.le_of_ble_eq_true rfl)
  (by intro s y h; unfold f41.inR at h; split at h <;> simp at h <;> subst h <;> rfl) (fun _ _ _ => rfl) (fun _ => by kernel_rfl)
end Go.Proofs

namespace Go.Proofs
open Go.VM
theorem octets_pad {l : List Int} (h : octets l) (n : Nat) : octets (padT l n) := by
  intro x hx
  simp only [padT, List.mem_map, List.mem_range] at hx
  obtain ⟨i, _, rfl⟩ := hx
  rw [List.getD_eq_getElem?_getD]
  cases e : l[i]? with
  | none => simp
  | some y => exact h y (List.mem_of_getElem? e)
theorem octets_sub {l : List Int} (h : octets l) (i n : Nat) : octets (subI l i n) := by
  intro x hx
  simp only [subI, List.mem_map, List.mem_range] at hx
  obtain ⟨j, _, rfl⟩ := hx
  rw [List.getD_eq_getElem?_getD]
  cases e : l[i + j]? with
  | none => simp
  | some y => exact h y (List.mem_of_getElem? e)
theorem octets_spl {l m : List Int} (h : octets l) (h2 : octets m) (i n : Nat) : octets (spl l i n m) := by
  rw [spl]
  exact octets_append (octets_append (octets_pad h _) (octets_pad h2 _)) fun x hx => h x (List.mem_of_mem_drop hx)
theorem subI_length (l : List Int) (i n : Nat) : (subI l i n).length = n := by simp [subI]
end Go.Proofs

namespace Go.Proofs
open Go.VM
abbrev f76.Ty0 := List Int × Int × Int × List Int × List Int × Int
abbrev f76.Ty1 := List Int × Int × Int × List Int
def f76.T (_K : Nat) (m0_0 : List Int) (m0_1 : Int) (m0_2 : Int) (m1 : List Int) : Option (f76.Ty0) :=
  some (m0_0, m0_1, m0_2, m1, [0, 0, 0, 0, 0, 0, 0, 0, 0, 0, 0, 0, 0, 0, 0, 0], 0)
def f76.F (K : Nat) (x : f76.Ty1) : Option (f76.Ty0) := f76.T K x.1 x.2.1 x.2.2.1 x.2.2.2
def f76.av (_x : f76.Ty1) : List VV := [.ptr 0 1]
def f76.bl (x : f76.Ty1) : List (Nat × Blk) := [(0, ([.ptr 1 0, .ints .u8 64 x.1, .int .i64 x.2.1, .int .u64 x.2.2.1], 30, .norm)), (1, ([.ints .u32 8 x.2.2.2], 110, .norm))]
def f76.inA : VS → Option (f76.Ty1)
  | ⟨[(0, .ptr 0 1)], [(0, ([.ptr 1 0, .ints .u8 64 m0_0, .int .i64 m0_1, .int .u64 m0_2], 30, .norm)), (1, ([.ints .u32 8 m1], 110, .norm))], 2⟩ => some (m0_0, m0_1, m0_2, m1)
  | _ => none
def f76.o0 (y : f76.Ty0) : VS := ⟨[(0, .fn 90 [.ptr 2 0, .ptr 3 0, .ptr 4 0])], [(0, ([.ptr 1 0, .ints .u8 64 y.1, .int .i64 y.2.1, .int .u64 y.2.2.1], 30, .norm)), (1, ([.ints .u32 8 y.2.2.2.1], 110, .norm)), (2, ([.ints .u32 16 y.2.2.2.2.1], 146, .norm)), (3, ([.int .i64 y.2.2.2.2.2], 3, .norm)), (4, ([.ptr 0 1], 112, .norm))], 5⟩
def f76.inR : VS → Option (f76.Ty0)
  | ⟨[(0, .fn 90 [.ptr 2 0, .ptr 3 0, .ptr 4 0])], [(0, ([.ptr 1 0, .ints .u8 64 z0_0, .int .i64 z0_1, .int .u64 z0_2], 30, .norm)), (1, ([.ints .u32 8 z1], 110, .norm)), (2, ([.ints .u32 16 z2], 146, .norm)), (3, ([.int .i64 z3], 3, .norm)), (4, ([.ptr 0 1], 112, .norm))], 5⟩ => some (z0_0, z0_1, z0_2, z1, z2, z3)
  | _ => none
noncomputable def f76.E (K : Nat) : Entry := genE 2 f76.inA (f76.F K) (dv1 f76.o0)
theorem f76.ok (K : Nat) : EntryOK Try.prog 76 (f76.E K) := gen_ok mix tys_ok (tab_ok ( tab_nil)) Try.func76 (c := bodyOf Try.f76) (by kernel_rfl) (by kernel_rfl) (loops_none (lp := lpNone) (by kernel_rfl)) (av := f76.av) (bl := f76.bl) (inR := f76.inR) (out := f76.o0) (fuel := 400)
  (by intro s x h; unfold f76.inA at h; split at h <;> simp at h; subst h; rfl) (fun _ => Nat.le_of_ble_eq_true rfl)
  (by intro s y h; unfold f76.inR at h; split at h <;> simp at h <;> subst h <;> rfl) (fun _ _ _ => rfl) (fun _ => by kernel_rfl)
end Go.Proofs

namespace Go.Proofs
open Go.VM
def f77.T (_K : Nat)  : Option (List Int) :=
  some ([1116352408, 1899447441, 3049323471, 3921009573, 961987163, 1508970993, 2453635748, 2870763221, 3624381080, 310598401, 607225278, 1426881987, 1925078388, 2162078206, 2614888103, 3248222580, 3835390401, 4022224774, 264347078, 604807628, 770255983, 1249150122, 1555081692, 1996064986, 2554220882, 2821834349, 2952996808, 3210313671, 3336571891, 3584528711, 113926993, 338241895, 666307205, 773529912, 1294757372, 1396182291, 1695183700, 1986661051, 2177026350, 2456956037, 2730485921, 2820302411, 3259730800, 3345764771, 3516065817, 3600352804, 4094571909, 275423344, 430227734, 506948616, 659060556, 883997877, 958139571, 1322822218, 1537002063, 1747873779, 1955562222, 2024104815, 2227730452, 2361852424, 2428436474, 2756734187, 3204031479, 3329325298])
def f77.F (K : Nat) (_x : Unit) : Option (List Int) := f77.T K
def f77.av (_x : Unit) : List VV := []
def f77.bl (_x : Unit) : List (Nat × Blk) := []
def f77.inA : VS → Option (Unit)
  | ⟨[], [], 0⟩ => some ()
  | _ => none
def f77.o0 (y : List Int) : VS := ⟨[(0, .agg [.ints .u32 64 y])], [], 0⟩
def f77.inR : VS → Option (List Int)
  | ⟨[(0, .agg [.ints .u32 64 y])], [], 0⟩ => some y
  | _ => none
noncomputable def f77.E (K : Nat) : Entry := genE 0 f77.inA (f77.F K) (dv1 f77.o0)
theorem f77.ok (K : Nat) : EntryOK Try.prog 77 (f77.E K) := gen_ok mix tys_ok (tab_ok ( tab_nil)) Try.func77 (c := bodyOf Try.f77) (by kernel_rfl) (by kernel_rfl) (loops_none (lp := lpNone) (by kernel_rfl)) (av := f77.av) (bl := f77.bl) (inR := f77.inR) (out := f77.o0) (fuel := 400)
  (by intro s x h; unfold f77.inA at h; split at h <;> simp at h; rfl) (fun _ => Nat.le_of_ble_eq_true rfl)
  (by intro s y h; unfold f77.inR at h; split at h <;> simp at h <;> subst h <;> rfl) (fun _ _ _ => rfl) (fun _ => by kernel_rfl)
end Go.Proofs

namespace Go.Proofs
open Go.VM
abbrev f90.Ty0 := Int × List Int × Int × List Int × Int × Int × List Int
abbrev f90.Ty1 := List Int × Int × List Int × Int × Int × List Int
def f90.T (K : Nat) (m0 : List Int) (m1 : Int) (m3_0 : List Int) (m3_1 : Int) (m3_2 : Int) (m4 : List Int) : Option (f90.Ty0) :=
  let v1 := Int.tmod m1 16
  bif decide (0 ≤ v1 ∧ v1 < 16) then
    let v2 := Int.toNat v1
    bif (decide (m1 < 16)) then
      let v4 := IntKind.wrap .i64 (4 * m1)
      bif decide (0 ≤ v4 ∧ v4 ≤ 64) then
        let v5 := bif Nat.beq 64 (Int.toNat v4) then 0 else (Int.toNat v4)
        let v6 := 64 - (Int.toNat v4)
        bif ((Nat.ble (v5 + v6) 64 && (Nat.ble v6 (64 - (Int.toNat v4)))) && true) then
          (f83.F K (v6, 4, v6, (subI m3_0 v5 v6))).bind fun y8 =>
          let v10 := setD m0 v2 (IntKind.wrap .u32 y8.1)
          some ((List.getD v10 v2 0), v10, (IntKind.wrap .i64 (m1 + 1)), m3_0, m3_1, m3_2, m4)
        else
          none
      else
        none
    else
      let v14 := Int.tmod (IntKind.wrap .i64 (m1 + 1)) 16
      bif decide (0 ≤ v14 ∧ v14 < 16) then
        let v16 := List.getD m0 (Int.toNat v14) 0
        let v18 := Int.tmod (IntKind.wrap .i64 (m1 + 14)) 16
        bif decide (0 ≤ v18 ∧ v18 < 16) then
          let v20 := List.getD m0 (Int.toNat v18) 0
          (f78.F K (v16, 2, 2, [7, 18])).bind fun y22 =>
          let v26 := setD m0 v2 (IntKind.wrap .u32 ((List.getD m0 v2 0) + (bits .xor .u32 y22.1 (Int.fdiv v16 (2 ^ 3)))))
          (f78.F K (v20, 2, 2, [17, 19])).bind fun y28 =>
          let v32 := setD v26 v2 (IntKind.wrap .u32 ((List.getD v26 v2 0) + (bits .xor .u32 y28.1 (Int.fdiv v20 (2 ^ 10)))))
          let v35 := Int.tmod (IntKind.wrap .i64 (m1 + 9)) 16
          bif decide (0 ≤ v35 ∧ v35 < 16) then
            let v39 := setD v32 v2 (IntKind.wrap .u32 ((List.getD v32 v2 0) + (List.getD v32 (Int.toNat v35) 0)))
            some ((List.getD v39 v2 0), v39, (IntKind.wrap .i64 (m1 + 1)), m3_0, m3_1, m3_2, m4)
          else
            none
        else
          none
      else
        none
  else
    none
def f90.F (K : Nat) (x : f90.Ty1) : Option (f90.Ty0) := f90.T K x.1 x.2.1 x.2.2.1 x.2.2.2.1 x.2.2.2.2.1 x.2.2.2.2.2
def f90.av (_x : f90.Ty1) : List VV := [.ptr 0 0, .ptr 1 0, .ptr 2 0]
def f90.bl (x : f90.Ty1) : List (Nat × Blk) := [(0, ([.ints .u32 16 x.1], 146, .norm)), (1, ([.int .i64 x.2.1], 3, .norm)), (2, ([.ptr 3 1], 112, .norm)), (3, ([.ptr 4 0, .ints .u8 64 x.2.2.1, .int .i64 x.2.2.2.1, .int .u64 x.2.2.2.2.1], 30, .norm)), (4, ([.ints .u32 8 x.2.2.2.2.2], 110, .norm))]
def f90.inA : VS → Option (f90.Ty1)
  | ⟨[(0, .ptr 0 0), (1, .ptr 1 0), (2, .ptr 2 0)], [(0, ([.ints .u32 16 m0], 146, .norm)), (1, ([.int .i64 m1], 3, .norm)), (2, ([.ptr 3 1], 112, .norm)), (3, ([.ptr 4 0, .ints .u8 64 m3_0, .int .i64 m3_1, .int .u64 m3_2], 30, .norm)), (4, ([.ints .u32 8 m4], 110, .norm))], 5⟩ => some (m0, m1, m3_0, m3_1, m3_2, m4)
  | _ => none
def f90.o0 (y : f90.Ty0) : VS := ⟨[(0, .int .u32 y.1)], [(0, ([.ints .u32 16 y.2.1], 146, .norm)), (1, ([.int .i64 y.2.2.1], 3, .norm)), (2, ([.ptr 3 1], 112, .norm)), (3, ([.ptr 4 0, .ints .u8 64 y.2.2.2.1, .int .i64 y.2.2.2.2.1, .int .u64 y.2.2.2.2.2.1], 30, .norm)), (4, ([.ints .u32 8 y.2.2.2.2.2.2], 110, .norm))], 5⟩
def f90.inR : VS → Option (f90.Ty0)
  | ⟨[(0, .int .u32 y)], [(0, ([.ints .u32 16 z0], 146, .norm)), (1, ([.int .i64 z1], 3, .norm)), (2, ([.ptr 3 1], 112, .norm)), (3, ([.ptr 4 0, .ints .u8 64 z3_0, .int .i64 z3_1, .int .u64 z3_2], 30, .norm)), (4, ([.ints .u32 8 z4], 110, .norm))], 5⟩ => some (y, z0, z1, z3_0, z3_1, z3_2, z4)
  | _ => none
noncomputable def f90.E (K : Nat) : Entry := genE 5 f90.inA (f90.F K) (dv1 f90.o0)
theorem f90.ok (K : Nat) : EntryOK Try.prog 90 (f90.E K) := gen_ok mix tys_ok (sp := tabSp [(83, (viewE [(0, .u8)] (f83.E K))), (78, (viewE [(1, .i64)] (f78.E K)))]) (tab_ok ((tab_cons (view_ok (f83.ok K)) (tab_cons (view_ok (f78.ok K)) tab_nil)))) Try.func90 (c := bodyOf Try.f90) (by kernel_rfl) (by kernel_rfl) (loops_none (lp := lpNone) (by kernel_rfl)) (av := f90.av) (bl := f90.bl) (inR := f90.inR) (out := f90.o0) (fuel := 400)
  (by intro s x h; unfold f90.inA at h; split at h <;> simp at h; subst h; rfl) (fun _ => Nat.le_of_ble_eq_true rfl)
  (by intro s y h; unfold f90.inR at h; split at h <;> simp at h <;> subst h <;> rfl) (fun _ _ _ => rfl) (fun _ => by kernel_rfl)
end Go.Proofs

namespace Go.Proofs
open Go.VM
abbrev f62.Ty0 := List Int × Int × List Int × Int × Int × List Int × List Int × List Int × List Int × List Int × Int
abbrev f62.Ty1 := List Int × Int × List Int × Int × Int × List Int × List Int × List Int
abbrev f62.Ty2 := List Int × Int × Int × List Int × List Int × List Int × List Int
abbrev f62.Ty3 := List Int × Int × Int × List Int × List Int × List Int
abbrev f62.Ty4 := List Int × List Int × Int × Int × List Int
noncomputable def f62.c : Code := bodyOf Try.f62
def f62.s0t (K : Nat) (rec : f62.Ty0 → Option (f62.Ty2)) (t16 : List Int) (t17 : Int) (b0_0 : List Int) (b0_1 : Int) (b0_2 : Int) (b1 : List Int) (b2 : List Int) (b3 : List Int) (b4 : List Int) (b5 : List Int) (b6 : Int) : Option (f62.Ty2) :=
  bif (decide (t17 < 64)) then
    bif decide (0 ≤ t17 ∧ t17 < 64) then
      (f78.F K ((List.getD b4 4 0), 3, 3, [6, 11, 25])).bind fun y7 =>
      (f90.F K (b5, b6, b0_0, b0_1, b0_2, b1)).bind fun y19 =>
      let v20 := IntKind.wrap .u32 ((IntKind.wrap .u32 ((IntKind.wrap .u32 ((IntKind.wrap .u32 ((List.getD b4 7 0) + y7.1)) + (bits .or .u32 (bits .and .u32 (List.getD b4 4 0) (List.getD b4 5 0)) (bits .and .u32 (bits .xor .u32 4294967295 (List.getD b4 4 0)) (List.getD b4 6 0))))) + (List.getD t16 (Int.toNat t17) 0))) + y19.1)
      (f78.F K ((List.getD b4 0 0), 3, 3, [2, 13, 22])).bind fun y22 =>
      let v33 := spl b4 1 7 (subI b4 0 7)
      rec (t16, (IntKind.wrap .i64 (t17 + 1)), y19.2.2.2.1, y19.2.2.2.2.1, y19.2.2.2.2.2.1, y19.2.2.2.2.2.2, b2, b3, (setD (setD v33 4 (IntKind.wrap .u32 ((List.getD v33 4 0) + v20))) 0 (IntKind.wrap .u32 (v20 + (IntKind.wrap .u32 (y22.1 + (bits .xor .u32 (bits .and .u32 (List.getD b4 0 0) (bits .xor .u32 (List.getD b4 1 0) (List.getD b4 2 0))) (bits .and .u32 (List.getD b4 1 0) (List.getD b4 2 0)))))))), y19.2.1, y19.2.2.1)
    else
      none
  else
    some (b0_0, b0_1, b0_2, b1, b2, b3, b4)
def f62.s0 (K : Nat) (rec : f62.Ty0 → Option (f62.Ty2)) (x : f62.Ty0) : Option (f62.Ty2) := f62.s0t K rec x.1 x.2.1 x.2.2.1 x.2.2.2.1 x.2.2.2.2.1 x.2.2.2.2.2.1 x.2.2.2.2.2.2.1 x.2.2.2.2.2.2.2.1 x.2.2.2.2.2.2.2.2.1 x.2.2.2.2.2.2.2.2.2.1 x.2.2.2.2.2.2.2.2.2.2
noncomputable def f62.s0.b : Code := (findLoop 0 f62.c).getD .skip
def f62.s0.h : Hint := { lv := [2, 4, 5, 6, 16, 17] }
def f62.s0.ho : Hint := { lv := [2, 4, 5] }
def f62.s0.shp (x : f62.Ty0) : VS := ⟨[(2, .ptr 2 0), (4, .ptr 3 0), (5, .ptr 4 0), (6, .fn 90 [.ptr 5 0, .ptr 6 0, .ptr 7 0]), (16, .agg [.ints .u32 64 x.1]), (17, .int .i64 x.2.1)], [(0, ([.ptr 1 0, .ints .u8 64 x.2.2.1, .int .i64 x.2.2.2.1, .int .u64 x.2.2.2.2.1], 30, .norm)), (1, ([.ints .u32 8 x.2.2.2.2.2.1], 110, .norm)), (2, ([.ints .u32 8 x.2.2.2.2.2.2.1], 110, .norm)), (3, ([.ints .u32 8 x.2.2.2.2.2.2.2.1], 110, .norm)), (4, ([.ints .u32 8 x.2.2.2.2.2.2.2.2.1], 110, .norm)), (5, ([.ints .u32 16 x.2.2.2.2.2.2.2.2.2.1], 146, .norm)), (6, ([.int .i64 x.2.2.2.2.2.2.2.2.2.2], 3, .norm)), (7, ([.ptr 0 1], 112, .norm))], 8⟩
def f62.s0.inX : VS → Option (f62.Ty0)
  | ⟨[(2, .ptr 2 0), (4, .ptr 3 0), (5, .ptr 4 0), (6, .fn 90 [.ptr 5 0, .ptr 6 0, .ptr 7 0]), (16, .agg [.ints .u32 64 t16]), (17, .int .i64 t17)], [(0, ([.ptr 1 0, .ints .u8 64 b0_0, .int .i64 b0_1, .int .u64 b0_2], 30, .norm)), (1, ([.ints .u32 8 b1], 110, .norm)), (2, ([.ints .u32 8 b2], 110, .norm)), (3, ([.ints .u32 8 b3], 110, .norm)), (4, ([.ints .u32 8 b4], 110, .norm)), (5, ([.ints .u32 16 b5], 146, .norm)), (6, ([.int .i64 b6], 3, .norm)), (7, ([.ptr 0 1], 112, .norm))], 8⟩ => some (t16, t17, b0_0, b0_1, b0_2, b1, b2, b3, b4, b5, b6)
  | _ => none
def f62.s0.o0 (y : f62.Ty2) : VS := ⟨[(2, .ptr 2 0), (4, .ptr 3 0), (5, .ptr 4 0)], [(0, ([.ptr 1 0, .ints .u8 64 y.1, .int .i64 y.2.1, .int .u64 y.2.2.1], 30, .norm)), (1, ([.ints .u32 8 y.2.2.2.1], 110, .norm)), (2, ([.ints .u32 8 y.2.2.2.2.1], 110, .norm)), (3, ([.ints .u32 8 y.2.2.2.2.2.1], 110, .norm)), (4, ([.ints .u32 8 y.2.2.2.2.2.2], 110, .norm))], 5⟩
def f62.s0.des : ∀ α : Type, (f62.Ty2) → (Ex → VS → Option α) → Option α := (des1 (.exit 0) f62.s0.o0)
def f62.s0.out : f62.Ty2 → Ex × VS := (fun y => (.exit 0, f62.s0.o0 y))
theorem f62.s0.desOK : ∀ α y (k : Ex → VS → Option α), f62.s0.des α y k = k (f62.s0.out y).1 (f62.s0.out y).2 := (fun _ _ _ => rfl)
def f62.s0.inY : Ex → VS → Option (f62.Ty2)
  | .exit 0, ⟨[(2, .ptr 2 0), (4, .ptr 3 0), (5, .ptr 4 0)], [(0, ([.ptr 1 0, .ints .u8 64 b0_0, .int .i64 b0_1, .int .u64 b0_2], 30, .norm)), (1, ([.ints .u32 8 b1], 110, .norm)), (2, ([.ints .u32 8 b2], 110, .norm)), (3, ([.ints .u32 8 b3], 110, .norm)), (4, ([.ints .u32 8 b4], 110, .norm))], 5⟩ => some (b0_0, b0_1, b0_2, b1, b2, b3, b4)
  | _, _ => none
def f62.s2t (_K : Nat) (rec : f62.Ty1 → Option (f62.Ty3)) (t77 : List Int) (t78 : Int) (b0_0 : List Int) (b0_1 : Int) (b0_2 : Int) (b1 : List Int) (b2 : List Int) (b3 : List Int) : Option (f62.Ty3) :=
  bif (decide (t78 < 8)) then
    bif decide (0 ≤ t78 ∧ t78 < 8) then
      bif decide (0 ≤ t78 ∧ t78 < 8) then
        bif decide (0 ≤ t78 ∧ t78 < 8) then
          rec (t77, (IntKind.wrap .i64 (t78 + 1)), b0_0, b0_1, b0_2, b1, b2, (setD b3 (Int.toNat t78) (IntKind.wrap .u32 ((List.getD b3 (Int.toNat t78) 0) + (List.getD t77 (Int.toNat t78) 0)))))
        else
          none
      else
        none
    else
      none
  else
    some (b0_0, b0_1, b0_2, b1, b2, b3)
def f62.s2 (K : Nat) (rec : f62.Ty1 → Option (f62.Ty3)) (x : f62.Ty1) : Option (f62.Ty3) := f62.s2t K rec x.1 x.2.1 x.2.2.1 x.2.2.2.1 x.2.2.2.2.1 x.2.2.2.2.2.1 x.2.2.2.2.2.2.1 x.2.2.2.2.2.2.2
noncomputable def f62.s2.b : Code := (findLoop 2 f62.c).getD .skip
def f62.s2.h : Hint := { lv := [4, 5, 77, 78] }
def f62.s2.ho : Hint := { lv := [4, 5] }
def f62.s2.shp (x : f62.Ty1) : VS := ⟨[(4, .ptr 2 0), (5, .ptr 3 0), (77, .agg [.ints .u32 8 x.1]), (78, .int .i64 x.2.1)], [(0, ([.ptr 1 0, .ints .u8 64 x.2.2.1, .int .i64 x.2.2.2.1, .int .u64 x.2.2.2.2.1], 30, .norm)), (1, ([.ints .u32 8 x.2.2.2.2.2.1], 110, .norm)), (2, ([.ints .u32 8 x.2.2.2.2.2.2.1], 110, .norm)), (3, ([.ints .u32 8 x.2.2.2.2.2.2.2], 110, .norm))], 4⟩
def f62.s2.inX : VS → Option (f62.Ty1)
  | ⟨[(4, .ptr 2 0), (5, .ptr 3 0), (77, .agg [.ints .u32 8 t77]), (78, .int .i64 t78)], [(0, ([.ptr 1 0, .ints .u8 64 b0_0, .int .i64 b0_1, .int .u64 b0_2], 30, .norm)), (1, ([.ints .u32 8 b1], 110, .norm)), (2, ([.ints .u32 8 b2], 110, .norm)), (3, ([.ints .u32 8 b3], 110, .norm))], 4⟩ => some (t77, t78, b0_0, b0_1, b0_2, b1, b2, b3)
  | _ => none
def f62.s2.o0 (y : f62.Ty3) : VS := ⟨[(4, .ptr 2 0), (5, .ptr 3 0)], [(0, ([.ptr 1 0, .ints .u8 64 y.1, .int .i64 y.2.1, .int .u64 y.2.2.1], 30, .norm)), (1, ([.ints .u32 8 y.2.2.2.1], 110, .norm)), (2, ([.ints .u32 8 y.2.2.2.2.1], 110, .norm)), (3, ([.ints .u32 8 y.2.2.2.2.2], 110, .norm))], 4⟩
def f62.s2.des : ∀ α : Type, (f62.Ty3) → (Ex → VS → Option α) → Option α := (des1 (.exit 2) f62.s2.o0)
def f62.s2.out : f62.Ty3 → Ex × VS := (fun y => (.exit 2, f62.s2.o0 y))
theorem f62.s2.desOK : ∀ α y (k : Ex → VS → Option α), f62.s2.des α y k = k (f62.s2.out y).1 (f62.s2.out y).2 := (fun _ _ _ => rfl)
def f62.s2.inY : Ex → VS → Option (f62.Ty3)
  | .exit 2, ⟨[(4, .ptr 2 0), (5, .ptr 3 0)], [(0, ([.ptr 1 0, .ints .u8 64 b0_0, .int .i64 b0_1, .int .u64 b0_2], 30, .norm)), (1, ([.ints .u32 8 b1], 110, .norm)), (2, ([.ints .u32 8 b2], 110, .norm)), (3, ([.ints .u32 8 b3], 110, .norm))], 4⟩ => some (b0_0, b0_1, b0_2, b1, b2, b3)
  | _, _ => none
def f62.lp (K : Nat) : Nat → Option (Hint × Summ) := tabLp [(0, f62.s0.h, summOf (iter (f62.s0 K) K) f62.s0.inX f62.s0.des), (2, f62.s2.h, summOf (iter (f62.s2 K) K) f62.s2.inX f62.s2.des)]
noncomputable def f62.tab (K : Nat) : List (Nat × Entry) := [(76, (f76.E K)), (77, (f77.E K)), (78, (viewE [(1, .i64)] (f78.E K))), (90, (f90.E K))]
theorem f62.tabOK (K : Nat) : SpecOK Try.prog (tabSp (f62.tab K)) := tab_ok ((tab_cons (f76.ok K) (tab_cons (f77.ok K) (tab_cons (view_ok (f78.ok K)) (tab_cons (f90.ok K) tab_nil)))))
theorem f62.s0.eq (K : Nat) (rec : f62.Ty0 → Option (f62.Ty2)) (x : f62.Ty0) : f62.s0 K rec x = roundL (getA tys) (tabSp (f62.tab K)) 90 2 (f62.lp K) 400 f62.s0.b f62.s0.h f62.s0.ho f62.s0.shp f62.s0.inX f62.s0.inY rec x := by kernel_rfl
theorem f62.s0.lok (K : Nat) : LoopsOK Try.prog 90 2 (f62.lp K) f62.s0.b := loops_ok (by
  have h : loopsIn (f62.lp K) f62.s0.b = [] := by kernel_rfl
  rw [h]; simp)
theorem f62.s0.ok (K : Nat) : SummOK Try.prog 90 2 (summOf (iter (f62.s0 K) K) f62.s0.inX f62.s0.des) f62.s0.b :=
  loop_ok mix tys_ok (f62.tabOK K) (h := f62.s0.h) (ho := f62.s0.ho) (shp := f62.s0.shp) (inX := f62.s0.inX) (des := f62.s0.des) (out := f62.s0.out) (inY := f62.s0.inY) (fuel := 400)
    (by intro st x h; unfold f62.s0.inX at h; split at h <;> simp at h; subst h; rfl)
    (by intro e st y h; unfold f62.s0.inY at h; split at h <;> simp at h <;> subst h <;> rfl)
    f62.s0.desOK (f62.s0.lok K) (f62.s0 K) (f62.s0.eq K) K
theorem f62.s2.eq (K : Nat) (rec : f62.Ty1 → Option (f62.Ty3)) (x : f62.Ty1) : f62.s2 K rec x = roundL (getA tys) (tabSp (f62.tab K)) 90 2 (f62.lp K) 400 f62.s2.b f62.s2.h f62.s2.ho f62.s2.shp f62.s2.inX f62.s2.inY rec x := by kernel_rfl
theorem f62.s2.lok (K : Nat) : LoopsOK Try.prog 90 2 (f62.lp K) f62.s2.b := loops_ok (by
  have h : loopsIn (f62.lp K) f62.s2.b = [] := by kernel_rfl
  rw [h]; simp)
theorem f62.s2.ok (K : Nat) : SummOK Try.prog 90 2 (summOf (iter (f62.s2 K) K) f62.s2.inX f62.s2.des) f62.s2.b :=
  loop_ok mix tys_ok (f62.tabOK K) (h := f62.s2.h) (ho := f62.s2.ho) (shp := f62.s2.shp) (inX := f62.s2.inX) (des := f62.s2.des) (out := f62.s2.out) (inY := f62.s2.inY) (fuel := 400)
    (by intro st x h; unfold f62.s2.inX at h; split at h <;> simp at h; subst h; rfl)
    (by intro e st y h; unfold f62.s2.inY at h; split at h <;> simp at h <;> subst h <;> rfl)
    f62.s2.desOK (f62.s2.lok K) (f62.s2 K) (f62.s2.eq K) K
theorem f62.loops (K : Nat) : LoopsOK Try.prog 90 2 (f62.lp K) f62.c := loops_ok (by
  have h : loopsIn (f62.lp K) f62.c = [(0, f62.s0.b), (2, f62.s2.b)] := by kernel_rfl
  rw [h]
  intro p hp
  simp only [List.mem_cons, List.not_mem_nil, or_false] at hp
  rcases hp with rfl | rfl
  · exact ⟨_, rfl, (f62.s0.ok K)⟩
  · exact ⟨_, rfl, (f62.s2.ok K)⟩)
def f62.T (K : Nat) (a0 : List Int) (m0_0 : List Int) (m0_1 : Int) (m0_2 : Int) (m1 : List Int) : Option (f62.Ty4) :=
  (f76.F K (m0_0, m0_1, m0_2, m1)).bind fun y1 =>
  (f77.F K ()).bind fun y2 =>
  (iter (f62.s0 K) K (y2, 0, y1.1, y1.2.1, y1.2.2.1, y1.2.2.2.1, a0, [0, 0, 0, 0, 0, 0, 0, 0], a0, y1.2.2.2.2.1, y1.2.2.2.2.2)).bind fun y40 =>
  (iter (f62.s2 K) K (y40.2.2.2.2.1, 0, y40.1, y40.2.1, y40.2.2.1, y40.2.2.2.1, y40.2.2.2.2.2.1, y40.2.2.2.2.2.2)).bind fun y50 =>
  some (y50.2.2.2.2.2, y50.1, y50.2.1, y50.2.2.1, y50.2.2.2.1)
def f62.F (K : Nat) (x : f62.Ty4) : Option (f62.Ty4) := f62.T K x.1 x.2.1 x.2.2.1 x.2.2.2.1 x.2.2.2.2
def f62.av (x : f62.Ty4) : List VV := [.agg [.ints .u32 8 x.1], .ptr 0 1]
def f62.bl (x : f62.Ty4) : List (Nat × Blk) := [(0, ([.ptr 1 0, .ints .u8 64 x.2.1, .int .i64 x.2.2.1, .int .u64 x.2.2.2.1], 30, .norm)), (1, ([.ints .u32 8 x.2.2.2.2], 110, .norm))]
def f62.inA : VS → Option (f62.Ty4)
  | ⟨[(0, .agg [.ints .u32 8 a0]), (1, .ptr 0 1)], [(0, ([.ptr 1 0, .ints .u8 64 m0_0, .int .i64 m0_1, .int .u64 m0_2], 30, .norm)), (1, ([.ints .u32 8 m1], 110, .norm))], 2⟩ => some (a0, m0_0, m0_1, m0_2, m1)
  | _ => none
def f62.o0 (y : f62.Ty4) : VS := ⟨[(0, .agg [.ints .u32 8 y.1])], [(0, ([.ptr 1 0, .ints .u8 64 y.2.1, .int .i64 y.2.2.1, .int .u64 y.2.2.2.1], 30, .norm)), (1, ([.ints .u32 8 y.2.2.2.2], 110, .norm))], 2⟩
def f62.des : ∀ α : Type, (f62.Ty4) → (VS → Option α) → Option α := (dv1 f62.o0)
def f62.out : f62.Ty4 → VS := f62.o0
def f62.inR : VS → Option (f62.Ty4)
  | ⟨[(0, .agg [.ints .u32 8 y])], [(0, ([.ptr 1 0, .ints .u8 64 z0_0, .int .i64 z0_1, .int .u64 z0_2], 30, .norm)), (1, ([.ints .u32 8 z1], 110, .norm))], 2⟩ => some (y, z0_0, z0_1, z0_2, z1)
  | _ => none
noncomputable def f62.E (K : Nat) : Entry := genE 2 f62.inA (f62.F K) f62.des
theorem f62.eq (K : Nat) (x : f62.Ty4) : f62.F K x = xrun (getA tys) (tabSp (f62.tab K)) Try.f62.ntmps 2 (f62.lp K) 400 f62.c ⟨initL 0 (f62.av x), f62.bl x, 2⟩ (contF (getA tys) 2 Try.f62.results.toList f62.inR) := by kernel_rfl
theorem f62.ok (K : Nat) : EntryOK Try.prog 62 (f62.E K) :=
  gen_ok mix tys_ok (f62.tabOK K) Try.func62 (by kernel_rfl : Try.f62.body = some f62.c) (by kernel_rfl) (f62.loops K) (av := f62.av) (bl := f62.bl) (out := f62.out) (fuel := 400)
    (by intro s x h; unfold f62.inA at h; split at h <;> simp at h; subst h; rfl) (fun _ => Nat.le_of_ble_eq_true rfl)
    (by intro s y h; unfold f62.inR at h; split at h <;> simp at h <;> subst h <;> rfl) (fun _ _ _ => rfl) (f62.eq K)
end Go.Proofs

namespace Go.Proofs
open Go.VM
def Sh.rot (x u v : Int) : Int := bits .or .u32 (shiftI .shl .u32 x u) (shiftI .shr .u32 x v)
def Sh.downs (x : Int) (L : List Nat) : Int := L.foldl (fun a k => bits .xor .u32 a (Sh.rot x ((32 - k : Nat) : Int) (k : Int))) 0
def Sh.sched (w b : List Int) (t : Nat) : List Int :=
  if t < 16 then setD w (t % 16) (IntKind.wrap .u32 ((tv (subI b (4 * t) 4) : Nat) : Int))
  else
    let x := List.getD w ((t + 1) % 16) 0
    let y := List.getD w ((t + 14) % 16) 0
    let w1 := setD w (t % 16) (IntKind.wrap .u32 ((List.getD w (t % 16) 0) + (bits .xor .u32 (Sh.downs x [7, 18]) (Int.fdiv x (2 ^ 3)))))
    let w2 := setD w1 (t % 16) (IntKind.wrap .u32 ((List.getD w1 (t % 16) 0) + (bits .xor .u32 (Sh.downs y [17, 19]) (Int.fdiv y (2 ^ 10)))))
    setD w2 (t % 16) (IntKind.wrap .u32 ((List.getD w2 (t % 16) 0) + (List.getD w2 ((t + 9) % 16) 0)))
def Sh.consts : List Int := [1116352408, 1899447441, 3049323471, 3921009573, 961987163, 1508970993, 2453635748, 2870763221, 3624381080, 310598401, 607225278, 1426881987, 1925078388, 2162078206, 2614888103, 3248222580, 3835390401, 4022224774, 264347078, 604807628, 770255983, 1249150122, 1555081692, 1996064986, 2554220882, 2821834349, 2952996808, 3210313671, 3336571891, 3584528711, 113926993, 338241895, 666307205, 773529912, 1294757372, 1396182291, 1695183700, 1986661051, 2177026350, 2456956037, 2730485921, 2820302411, 3259730800, 3345764771, 3516065817, 3600352804, 4094571909, 275423344, 430227734, 506948616, 659060556, 883997877, 958139571, 1322822218, 1537002063, 1747873779, 1955562222, 2024104815, 2227730452, 2361852424, 2428436474, 2756734187, 3204031479, 3329325298]
def Sh.step (b : List Int) (t : Nat) (vw : List Int × List Int) : List Int × List Int :=
  let v := vw.1
  let w := Sh.sched vw.2 b t
  let t1 := IntKind.wrap .u32 ((IntKind.wrap .u32 ((IntKind.wrap .u32 ((IntKind.wrap .u32 ((List.getD v 7 0) + Sh.downs (List.getD v 4 0) [6, 11, 25])) + (bits .or .u32 (bits .and .u32 (List.getD v 4 0) (List.getD v 5 0)) (bits .and .u32 (bits .xor .u32 4294967295 (List.getD v 4 0)) (List.getD v 6 0))))) + (List.getD Sh.consts t 0))) + List.getD w (t % 16) 0)
  let v33 := spl v 1 7 (subI v 0 7)
  (setD (setD v33 4 (IntKind.wrap .u32 ((List.getD v33 4 0) + t1))) 0 (IntKind.wrap .u32 (t1 + (IntKind.wrap .u32 (Sh.downs (List.getD v 0 0) [2, 13, 22] + (bits .xor .u32 (bits .and .u32 (List.getD v 0 0) (bits .xor .u32 (List.getD v 1 0) (List.getD v 2 0))) (bits .and .u32 (List.getD v 1 0) (List.getD v 2 0))))))), w)
def Sh.rounds (s b : List Int) : Nat → List Int × List Int
  | 0 => (s, [0, 0, 0, 0, 0, 0, 0, 0, 0, 0, 0, 0, 0, 0, 0, 0])
  | t + 1 => Sh.step b t (Sh.rounds s b t)
def Sh.added (v s : List Int) : Nat → List Int
  | 0 => s
  | i + 1 => setD (Sh.added v s i) i (IntKind.wrap .u32 (List.getD (Sh.added v s i) i 0 + List.getD v i 0))
def Sh.comp (s b : List Int) : List Int := Sh.added s (Sh.rounds s b 64).1 8
end Go.Proofs

namespace Go.Proofs
open Go.VM
abbrev f40.Ty0 := Nat × Nat × List Int × Int × Int × Nat × Nat × List Int × List Int
abbrev f40.Ty1 := List Int × Int × Int × Nat × Nat × List Int × List Int
abbrev f40.Ty2 := List Int × Int × Int × Nat × List Int × Nat × List Int
noncomputable def f40.c : Code := bodyOf Try.f40
def f40.s2t (K : Nat) (rec : f40.Ty0 → Option (f40.Ty1)) (t5_0 : Nat) (t5_1 : Nat) (b0_0 : List Int) (b0_1 : Int) (b0_2 : Int) (b1 : Nat) (b4_0 : Nat) (b4_1 : List Int) (b7 : List Int) : Option (f40.Ty1) :=
  bif (decide (((t5_1 : Nat) : Int) > 0)) then
    bif decide (0 ≤ b0_1 ∧ b0_1 ≤ 64) then
      let v6 := bif Nat.beq 64 (Int.toNat b0_1) then 0 else (Int.toNat b0_1)
      let v7 := 64 - (Int.toNat b0_1)
      bif (((Nat.ble (t5_0 + t5_1) b4_0 && true) && (Nat.ble (v6 + v7) 64)) && (Nat.beq t5_1 t5_1)) then
        let v9 := ((Nat.min t5_1 v7 : Nat) : Int)
        let v10 := spl b0_0 v6 (Nat.min t5_1 v7) (subI b4_1 t5_0 t5_1)
        bif decide (0 ≤ v9 ∧ v9 ≤ ((t5_1 : Nat) : Int)) then
          let v11 := t5_0 + (Int.toNat v9)
          let v12 := t5_1 - (Int.toNat v9)
          let v13 := IntKind.wrap .i64 (b0_1 + v9)
          bif (v13 == 64) then
            (f62.F K (b7, v10, v13, b0_2, b7)).bind fun y14 =>
            rec (v11, v12, y14.2.1, 0, y14.2.2.2.1, b1, b4_0, b4_1, y14.1)
          else
            rec (v11, v12, v10, v13, b0_2, b1, b4_0, b4_1, b7)
        else
          none
      else
        none
    else
      none
  else
    some (b0_0, b0_1, b0_2, b1, b4_0, b4_1, b7)
def f40.s2 (K : Nat) (rec : f40.Ty0 → Option (f40.Ty1)) (x : f40.Ty0) : Option (f40.Ty1) := f40.s2t K rec x.1 x.2.1 x.2.2.1 x.2.2.2.1 x.2.2.2.2.1 x.2.2.2.2.2.1 x.2.2.2.2.2.2.1 x.2.2.2.2.2.2.2.1 x.2.2.2.2.2.2.2.2
noncomputable def f40.s2.b : Code := (findLoop 2 f40.c).getD .skip
def f40.s2.h : Hint := { lv := [0, 5, 8, 9, 10], co := [(5, 0, [])], mv := [3] }
def f40.s2.ho : Hint := { lv := [0, 8, 9, 10] }
def f40.s2.shp (x : f40.Ty0) : VS := ⟨[(0, .ptr 0 0), (5, .vw true 4 x.1 x.2.1 6), (8, .vw true 1 0 1 2), (9, .int .i64 1), (10, .int .i64 0)], [(0, ([.ptr 7 0, .ints .u8 64 x.2.2.1, .int .i64 x.2.2.2.1, .int .u64 x.2.2.2.2.1], 30, .norm)), (1, ([.vw true 4 0 x.2.2.2.2.2.1 5], 0, .ro)), (3, ([], 110, .dead)), (4, ([.ints .u8 x.2.2.2.2.2.2.1 x.2.2.2.2.2.2.2.1], 0, .ro)), (7, ([.ints .u32 8 x.2.2.2.2.2.2.2.2], 110, .norm))], 8⟩
def f40.s2.inX : VS → Option (f40.Ty0)
  | ⟨[(0, .ptr 0 0), (5, .vw true 4 t5_0 t5_1 6), (8, .vw true 1 0 1 2), (9, .int .i64 1), (10, .int .i64 0)], [(0, ([.ptr 7 0, .ints .u8 64 b0_0, .int .i64 b0_1, .int .u64 b0_2], 30, .norm)), (1, ([.vw true 4 0 b1 5], 0, .ro)), (3, ([], 110, .dead)), (4, ([.ints .u8 b4_0 b4_1], 0, .ro)), (7, ([.ints .u32 8 b7], 110, .norm))], 8⟩ => some (t5_0, t5_1, b0_0, b0_1, b0_2, b1, b4_0, b4_1, b7)
  | _ => none
def f40.s2.o0 (y : f40.Ty1) : VS := ⟨[(0, .ptr 0 0), (8, .vw true 1 0 1 2), (9, .int .i64 1), (10, .int .i64 0)], [(0, ([.ptr 6 0, .ints .u8 64 y.1, .int .i64 y.2.1, .int .u64 y.2.2.1], 30, .norm)), (1, ([.vw true 4 0 y.2.2.2.1 5], 0, .ro)), (3, ([], 110, .dead)), (4, ([.ints .u8 y.2.2.2.2.1 y.2.2.2.2.2.1], 0, .ro)), (6, ([.ints .u32 8 y.2.2.2.2.2.2], 110, .norm))], 7⟩
def f40.s2.des : ∀ α : Type, (f40.Ty1) → (Ex → VS → Option α) → Option α := (des1 (.exit 2) f40.s2.o0)
def f40.s2.out : f40.Ty1 → Ex × VS := (fun y => (.exit 2, f40.s2.o0 y))
theorem f40.s2.desOK : ∀ α y (k : Ex → VS → Option α), f40.s2.des α y k = k (f40.s2.out y).1 (f40.s2.out y).2 := (fun _ _ _ => rfl)
def f40.s2.inY : Ex → VS → Option (f40.Ty1)
  | .exit 2, ⟨[(0, .ptr 0 0), (8, .vw true 1 0 1 2), (9, .int .i64 1), (10, .int .i64 0)], [(0, ([.ptr 6 0, .ints .u8 64 b0_0, .int .i64 b0_1, .int .u64 b0_2], 30, .norm)), (1, ([.vw true 4 0 b1 5], 0, .ro)), (3, ([], 110, .dead)), (4, ([.ints .u8 b4_0 b4_1], 0, .ro)), (6, ([.ints .u32 8 b6], 110, .norm))], 7⟩ => some (b0_0, b0_1, b0_2, b1, b4_0, b4_1, b6)
  | _, _ => none
def f40.lp (K : Nat) : Nat → Option (Hint × Summ) := tabLp [(2, f40.s2.h, summOf (iter (f40.s2 K) K) f40.s2.inX f40.s2.des)]
noncomputable def f40.tab (K : Nat) : List (Nat × Entry) := [(62, (f62.E K))]
theorem f40.tabOK (K : Nat) : SpecOK Try.prog (tabSp (f40.tab K)) := tab_ok ((tab_cons (f62.ok K) tab_nil))
theorem f40.s2.eq (K : Nat) (rec : f40.Ty0 → Option (f40.Ty1)) (x : f40.Ty0) : f40.s2 K rec x = roundL (getA tys) (tabSp (f40.tab K)) 76 6 (f40.lp K) 400 f40.s2.b f40.s2.h f40.s2.ho f40.s2.shp f40.s2.inX f40.s2.inY rec x := by kernel_rfl
theorem f40.s2.lok (K : Nat) : LoopsOK Try.prog 76 6 (f40.lp K) f40.s2.b := loops_ok (by
  have h : loopsIn (f40.lp K) f40.s2.b = [] := by kernel_rfl
  rw [h]; simp)
theorem f40.s2.ok (K : Nat) : SummOK Try.prog 76 6 (summOf (iter (f40.s2 K) K) f40.s2.inX f40.s2.des) f40.s2.b :=
  loop_ok mix tys_ok (f40.tabOK K) (h := f40.s2.h) (ho := f40.s2.ho) (shp := f40.s2.shp) (inX := f40.s2.inX) (des := f40.s2.des) (out := f40.s2.out) (inY := f40.s2.inY) (fuel := 400)
    (by intro st x h; unfold f40.s2.inX at h; split at h <;> simp at h; subst h; rfl)
    (by intro e st y h; unfold f40.s2.inY at h; split at h <;> simp at h <;> subst h <;> rfl)
    f40.s2.desOK (f40.s2.lok K) (f40.s2 K) (f40.s2.eq K) K
theorem f40.loops (K : Nat) : LoopsOK Try.prog 76 6 (f40.lp K) f40.c := loops_ok (by
  have h : loopsIn (f40.lp K) f40.c = [(2, f40.s2.b)] := by kernel_rfl
  rw [h]
  intro p hp
  simp only [List.mem_cons, List.not_mem_nil, or_false] at hp
  rcases hp with rfl
  · exact ⟨_, rfl, (f40.s2.ok K)⟩)
def f40.T (K : Nat) (m0_0 : List Int) (m0_1 : Int) (m0_2 : Int) (m1 : Nat) (m3 : List Int) (m4_0 : Nat) (m4_1 : List Int) : Option (f40.Ty1) :=
  (iter (f40.s2 K) K (0, m1, m0_0, m0_1, (IntKind.wrap .u64 (m0_2 + (IntKind.wrap .u64 ((m1 : Nat) : Int)))), m1, m4_0, m4_1, m3)).bind fun y15 =>
  some (y15.1, y15.2.1, y15.2.2.1, y15.2.2.2.1, y15.2.2.2.2.1, y15.2.2.2.2.2.1, y15.2.2.2.2.2.2)
def f40.F (K : Nat) (x : f40.Ty2) : Option (f40.Ty1) := f40.T K x.1 x.2.1 x.2.2.1 x.2.2.2.1 x.2.2.2.2.1 x.2.2.2.2.2.1 x.2.2.2.2.2.2
def f40.av (_x : f40.Ty2) : List VV := [.ptr 0 0, .vw true 1 0 1 2]
def f40.bl (x : f40.Ty2) : List (Nat × Blk) := [(0, ([.ptr 3 0, .ints .u8 64 x.1, .int .i64 x.2.1, .int .u64 x.2.2.1], 30, .norm)), (1, ([.vw true 4 0 x.2.2.2.1 5], 0, .ro)), (3, ([.ints .u32 8 x.2.2.2.2.1], 110, .norm)), (4, ([.ints .u8 x.2.2.2.2.2.1 x.2.2.2.2.2.2], 0, .ro))]
def f40.inA : VS → Option (f40.Ty2)
  | ⟨[(0, .ptr 0 0), (1, .vw true 1 0 1 2)], [(0, ([.ptr 3 0, .ints .u8 64 m0_0, .int .i64 m0_1, .int .u64 m0_2], 30, .norm)), (1, ([.vw true 4 0 m1 5], 0, .ro)), (3, ([.ints .u32 8 m3], 110, .norm)), (4, ([.ints .u8 m4_0 m4_1], 0, .ro))], 6⟩ => some (m0_0, m0_1, m0_2, m1, m3, m4_0, m4_1)
  | _ => none
def f40.o0 (y : f40.Ty1) : VS := ⟨[(0, .tup [])], [(0, ([.ptr 6 0, .ints .u8 64 y.1, .int .i64 y.2.1, .int .u64 y.2.2.1], 30, .norm)), (1, ([.vw true 4 0 y.2.2.2.1 5], 0, .ro)), (3, ([], 110, .dead)), (4, ([.ints .u8 y.2.2.2.2.1 y.2.2.2.2.2.1], 0, .ro)), (6, ([.ints .u32 8 y.2.2.2.2.2.2], 110, .norm))], 7⟩
def f40.des : ∀ α : Type, (f40.Ty1) → (VS → Option α) → Option α := (dv1 f40.o0)
def f40.out : f40.Ty1 → VS := f40.o0
def f40.inR : VS → Option (f40.Ty1)
  | ⟨[(0, .tup [])], [(0, ([.ptr 6 0, .ints .u8 64 z0_0, .int .i64 z0_1, .int .u64 z0_2], 30, .norm)), (1, ([.vw true 4 0 z1 5], 0, .ro)), (3, ([], 110, .dead)), (4, ([.ints .u8 z4_0 z4_1], 0, .ro)), (6, ([.ints .u32 8 z6], 110, .norm))], 7⟩ => some (z0_0, z0_1, z0_2, z1, z4_0, z4_1, z6)
  | _ => none
noncomputable def f40.E (K : Nat) : Entry := genE 6 f40.inA (f40.F K) f40.des
theorem f40.eq (K : Nat) (x : f40.Ty2) : f40.F K x = xrun (getA tys) (tabSp (f40.tab K)) Try.f40.ntmps 6 (f40.lp K) 400 f40.c ⟨initL 0 (f40.av x), f40.bl x, 6⟩ (contF (getA tys) 6 Try.f40.results.toList f40.inR) := by kernel_rfl
theorem f40.ok (K : Nat) : EntryOK Try.prog 40 (f40.E K) :=
  gen_ok mix tys_ok (f40.tabOK K) Try.func40 (by kernel_rfl : Try.f40.body = some f40.c) (by kernel_rfl) (f40.loops K) (av := f40.av) (bl := f40.bl) (out := f40.out) (fuel := 400)
    (by intro s x h; unfold f40.inA at h; split at h <;> simp at h; subst h; rfl) (fun _ => Nat.le_of_ble_eq_true rfl)
    (by intro s y h; unfold f40.inR at h; split at h <;> simp at h <;> subst h <;> rfl) (fun _ _ _ => rfl) (f40.eq K)
end Go.Proofs

namespace Go.Proofs
open Go.VM
abbrev f40v1.Ty0 := Nat × Nat × List Int × Int × Int × Nat × Nat × Nat × Nat × List Int × Nat × List Int × Nat × List Int × List Int
abbrev f40v1.Ty1 := List Int × Int × Int × Nat × Nat × Nat × Nat × List Int × Nat × List Int × Nat × List Int × List Int
abbrev f40v1.Ty2 := List Int × Int × Int × Nat × Nat × Nat × List Int × Nat × List Int × Nat × List Int × Nat × List Int
noncomputable def f40v1.c : Code := bodyOf Try.f40
def f40v1.s2t (K : Nat) (rec : f40v1.Ty0 → Option (f40v1.Ty1)) (t5_0 : Nat) (t5_1 : Nat) (b0_0 : List Int) (b0_1 : Int) (b0_2 : Int) (b1_0 : Nat) (b1_1 : Nat) (b1_2 : Nat) (b4_0 : Nat) (b4_1 : List Int) (b6_0 : Nat) (b6_1 : List Int) (b8_0 : Nat) (b8_1 : List Int) (b11 : List Int) : Option (f40v1.Ty1) :=
  bif (decide (((t5_1 : Nat) : Int) > 0)) then
    bif decide (0 ≤ b0_1 ∧ b0_1 ≤ 64) then
      let v6 := bif Nat.beq 64 (Int.toNat b0_1) then 0 else (Int.toNat b0_1)
      let v7 := 64 - (Int.toNat b0_1)
      bif (((Nat.ble (t5_0 + t5_1) b4_0 && true) && (Nat.ble (v6 + v7) 64)) && (Nat.beq t5_1 t5_1)) then
        let v9 := ((Nat.min t5_1 v7 : Nat) : Int)
        let v10 := spl b0_0 v6 (Nat.min t5_1 v7) (subI b4_1 t5_0 t5_1)
        bif decide (0 ≤ v9 ∧ v9 ≤ ((t5_1 : Nat) : Int)) then
          let v11 := t5_0 + (Int.toNat v9)
          let v12 := t5_1 - (Int.toNat v9)
          let v13 := IntKind.wrap .i64 (b0_1 + v9)
          bif (v13 == 64) then
            (f62.F K (b11, v10, v13, b0_2, b11)).bind fun y14 =>
            rec (v11, v12, y14.2.1, 0, y14.2.2.2.1, b1_0, b1_1, b1_2, b4_0, b4_1, b6_0, b6_1, b8_0, b8_1, y14.1)
          else
            rec (v11, v12, v10, v13, b0_2, b1_0, b1_1, b1_2, b4_0, b4_1, b6_0, b6_1, b8_0, b8_1, b11)
        else
          none
      else
        none
    else
      none
  else
    some (b0_0, b0_1, b0_2, b1_0, b1_1, b1_2, b4_0, b4_1, b6_0, b6_1, b8_0, b8_1, b11)
def f40v1.s2 (K : Nat) (rec : f40v1.Ty0 → Option (f40v1.Ty1)) (x : f40v1.Ty0) : Option (f40v1.Ty1) := f40v1.s2t K rec x.1 x.2.1 x.2.2.1 x.2.2.2.1 x.2.2.2.2.1 x.2.2.2.2.2.1 x.2.2.2.2.2.2.1 x.2.2.2.2.2.2.2.1 x.2.2.2.2.2.2.2.2.1 x.2.2.2.2.2.2.2.2.2.1 x.2.2.2.2.2.2.2.2.2.2.1 x.2.2.2.2.2.2.2.2.2.2.2.1 x.2.2.2.2.2.2.2.2.2.2.2.2.1 x.2.2.2.2.2.2.2.2.2.2.2.2.2.1 x.2.2.2.2.2.2.2.2.2.2.2.2.2.2
noncomputable def f40v1.s2.b : Code := (findLoop 2 f40v1.c).getD .skip
def f40v1.s2.h : Hint := { lv := [0, 5, 8, 9, 10], co := [(5, 0, [])], mv := [3] }
def f40v1.s2.ho : Hint := { lv := [0, 8, 9, 10] }
def f40v1.s2.shp (x : f40v1.Ty0) : VS := ⟨[(0, .ptr 0 0), (5, .vw true 4 x.1 x.2.1 10), (8, .vw true 1 0 3 2), (9, .int .i64 3), (10, .int .i64 0)], [(0, ([.ptr 11 0, .ints .u8 64 x.2.2.1, .int .i64 x.2.2.2.1, .int .u64 x.2.2.2.2.1], 30, .norm)), (1, ([.vw true 4 0 x.2.2.2.2.2.1 5, .vw true 6 0 x.2.2.2.2.2.2.1 7, .vw true 8 0 x.2.2.2.2.2.2.2.1 9], 0, .ro)), (3, ([], 110, .dead)), (4, ([.ints .u8 x.2.2.2.2.2.2.2.2.1 x.2.2.2.2.2.2.2.2.2.1], 0, .ro)), (6, ([.ints .u8 x.2.2.2.2.2.2.2.2.2.2.1 x.2.2.2.2.2.2.2.2.2.2.2.1], 0, .ro)), (8, ([.ints .u8 x.2.2.2.2.2.2.2.2.2.2.2.2.1 x.2.2.2.2.2.2.2.2.2.2.2.2.2.1], 0, .ro)), (11, ([.ints .u32 8 x.2.2.2.2.2.2.2.2.2.2.2.2.2.2], 110, .norm))], 12⟩
def f40v1.s2.inX : VS → Option (f40v1.Ty0)
  | ⟨[(0, .ptr 0 0), (5, .vw true 4 t5_0 t5_1 10), (8, .vw true 1 0 3 2), (9, .int .i64 3), (10, .int .i64 0)], [(0, ([.ptr 11 0, .ints .u8 64 b0_0, .int .i64 b0_1, .int .u64 b0_2], 30, .norm)), (1, ([.vw true 4 0 b1_0 5, .vw true 6 0 b1_1 7, .vw true 8 0 b1_2 9], 0, .ro)), (3, ([], 110, .dead)), (4, ([.ints .u8 b4_0 b4_1], 0, .ro)), (6, ([.ints .u8 b6_0 b6_1], 0, .ro)), (8, ([.ints .u8 b8_0 b8_1], 0, .ro)), (11, ([.ints .u32 8 b11], 110, .norm))], 12⟩ => some (t5_0, t5_1, b0_0, b0_1, b0_2, b1_0, b1_1, b1_2, b4_0, b4_1, b6_0, b6_1, b8_0, b8_1, b11)
  | _ => none
def f40v1.s2.o0 (y : f40v1.Ty1) : VS := ⟨[(0, .ptr 0 0), (8, .vw true 1 0 3 2), (9, .int .i64 3), (10, .int .i64 0)], [(0, ([.ptr 10 0, .ints .u8 64 y.1, .int .i64 y.2.1, .int .u64 y.2.2.1], 30, .norm)), (1, ([.vw true 4 0 y.2.2.2.1 5, .vw true 6 0 y.2.2.2.2.1 7, .vw true 8 0 y.2.2.2.2.2.1 9], 0, .ro)), (3, ([], 110, .dead)), (4, ([.ints .u8 y.2.2.2.2.2.2.1 y.2.2.2.2.2.2.2.1], 0, .ro)), (6, ([.ints .u8 y.2.2.2.2.2.2.2.2.1 y.2.2.2.2.2.2.2.2.2.1], 0, .ro)), (8, ([.ints .u8 y.2.2.2.2.2.2.2.2.2.2.1 y.2.2.2.2.2.2.2.2.2.2.2.1], 0, .ro)), (10, ([.ints .u32 8 y.2.2.2.2.2.2.2.2.2.2.2.2], 110, .norm))], 11⟩
def f40v1.s2.des : ∀ α : Type, (f40v1.Ty1) → (Ex → VS → Option α) → Option α := (des1 (.exit 2) f40v1.s2.o0)
def f40v1.s2.out : f40v1.Ty1 → Ex × VS := (fun y => (.exit 2, f40v1.s2.o0 y))
theorem f40v1.s2.desOK : ∀ α y (k : Ex → VS → Option α), f40v1.s2.des α y k = k (f40v1.s2.out y).1 (f40v1.s2.out y).2 := (fun _ _ _ => rfl)
def f40v1.s2.inY : Ex → VS → Option (f40v1.Ty1)
  | .exit 2, ⟨[(0, .ptr 0 0), (8, .vw true 1 0 3 2), (9, .int .i64 3), (10, .int .i64 0)], [(0, ([.ptr 10 0, .ints .u8 64 b0_0, .int .i64 b0_1, .int .u64 b0_2], 30, .norm)), (1, ([.vw true 4 0 b1_0 5, .vw true 6 0 b1_1 7, .vw true 8 0 b1_2 9], 0, .ro)), (3, ([], 110, .dead)), (4, ([.ints .u8 b4_0 b4_1], 0, .ro)), (6, ([.ints .u8 b6_0 b6_1], 0, .ro)), (8, ([.ints .u8 b8_0 b8_1], 0, .ro)), (10, ([.ints .u32 8 b10], 110, .norm))], 11⟩ => some (b0_0, b0_1, b0_2, b1_0, b1_1, b1_2, b4_0, b4_1, b6_0, b6_1, b8_0, b8_1, b10)
  | _, _ => none
def f40v1.s2bt (K : Nat) (rec : f40v1.Ty0 → Option (f40v1.Ty1)) (t5_0 : Nat) (t5_1 : Nat) (b0_0 : List Int) (b0_1 : Int) (b0_2 : Int) (b1_0 : Nat) (b1_1 : Nat) (b1_2 : Nat) (b4_0 : Nat) (b4_1 : List Int) (b6_0 : Nat) (b6_1 : List Int) (b8_0 : Nat) (b8_1 : List Int) (b11 : List Int) : Option (f40v1.Ty1) :=
  bif (decide (((t5_1 : Nat) : Int) > 0)) then
    bif decide (0 ≤ b0_1 ∧ b0_1 ≤ 64) then
      let v22 := bif Nat.beq 64 (Int.toNat b0_1) then 0 else (Int.toNat b0_1)
      let v23 := 64 - (Int.toNat b0_1)
      bif (((Nat.ble (t5_0 + t5_1) b6_0 && true) && (Nat.ble (v22 + v23) 64)) && (Nat.beq t5_1 t5_1)) then
        let v25 := ((Nat.min t5_1 v23 : Nat) : Int)
        let v26 := spl b0_0 v22 (Nat.min t5_1 v23) (subI b6_1 t5_0 t5_1)
        bif decide (0 ≤ v25 ∧ v25 ≤ ((t5_1 : Nat) : Int)) then
          let v27 := t5_0 + (Int.toNat v25)
          let v28 := t5_1 - (Int.toNat v25)
          let v29 := IntKind.wrap .i64 (b0_1 + v25)
          bif (v29 == 64) then
            (f62.F K (b11, v26, v29, b0_2, b11)).bind fun y30 =>
            rec (v27, v28, y30.2.1, 0, y30.2.2.2.1, b1_0, b1_1, b1_2, b4_0, b4_1, b6_0, b6_1, b8_0, b8_1, y30.1)
          else
            rec (v27, v28, v26, v29, b0_2, b1_0, b1_1, b1_2, b4_0, b4_1, b6_0, b6_1, b8_0, b8_1, b11)
        else
          none
      else
        none
    else
      none
  else
    some (b0_0, b0_1, b0_2, b1_0, b1_1, b1_2, b4_0, b4_1, b6_0, b6_1, b8_0, b8_1, b11)
def f40v1.s2b (K : Nat) (rec : f40v1.Ty0 → Option (f40v1.Ty1)) (x : f40v1.Ty0) : Option (f40v1.Ty1) := f40v1.s2bt K rec x.1 x.2.1 x.2.2.1 x.2.2.2.1 x.2.2.2.2.1 x.2.2.2.2.2.1 x.2.2.2.2.2.2.1 x.2.2.2.2.2.2.2.1 x.2.2.2.2.2.2.2.2.1 x.2.2.2.2.2.2.2.2.2.1 x.2.2.2.2.2.2.2.2.2.2.1 x.2.2.2.2.2.2.2.2.2.2.2.1 x.2.2.2.2.2.2.2.2.2.2.2.2.1 x.2.2.2.2.2.2.2.2.2.2.2.2.2.1 x.2.2.2.2.2.2.2.2.2.2.2.2.2.2
noncomputable def f40v1.s2b.b : Code := (findLoop 2 f40v1.c).getD .skip
def f40v1.s2b.h : Hint := { lv := [0, 5, 8, 9, 10], co := [(5, 0, [])], mv := [3] }
def f40v1.s2b.ho : Hint := { lv := [0, 8, 9, 10] }
def f40v1.s2b.shp (x : f40v1.Ty0) : VS := ⟨[(0, .ptr 0 0), (5, .vw true 6 x.1 x.2.1 10), (8, .vw true 1 0 3 2), (9, .int .i64 3), (10, .int .i64 1)], [(0, ([.ptr 11 0, .ints .u8 64 x.2.2.1, .int .i64 x.2.2.2.1, .int .u64 x.2.2.2.2.1], 30, .norm)), (1, ([.vw true 4 0 x.2.2.2.2.2.1 5, .vw true 6 0 x.2.2.2.2.2.2.1 7, .vw true 8 0 x.2.2.2.2.2.2.2.1 9], 0, .ro)), (3, ([], 110, .dead)), (4, ([.ints .u8 x.2.2.2.2.2.2.2.2.1 x.2.2.2.2.2.2.2.2.2.1], 0, .ro)), (6, ([.ints .u8 x.2.2.2.2.2.2.2.2.2.2.1 x.2.2.2.2.2.2.2.2.2.2.2.1], 0, .ro)), (8, ([.ints .u8 x.2.2.2.2.2.2.2.2.2.2.2.2.1 x.2.2.2.2.2.2.2.2.2.2.2.2.2.1], 0, .ro)), (11, ([.ints .u32 8 x.2.2.2.2.2.2.2.2.2.2.2.2.2.2], 110, .norm))], 12⟩
def f40v1.s2b.inX : VS → Option (f40v1.Ty0)
  | ⟨[(0, .ptr 0 0), (5, .vw true 6 t5_0 t5_1 10), (8, .vw true 1 0 3 2), (9, .int .i64 3), (10, .int .i64 1)], [(0, ([.ptr 11 0, .ints .u8 64 b0_0, .int .i64 b0_1, .int .u64 b0_2], 30, .norm)), (1, ([.vw true 4 0 b1_0 5, .vw true 6 0 b1_1 7, .vw true 8 0 b1_2 9], 0, .ro)), (3, ([], 110, .dead)), (4, ([.ints .u8 b4_0 b4_1], 0, .ro)), (6, ([.ints .u8 b6_0 b6_1], 0, .ro)), (8, ([.ints .u8 b8_0 b8_1], 0, .ro)), (11, ([.ints .u32 8 b11], 110, .norm))], 12⟩ => some (t5_0, t5_1, b0_0, b0_1, b0_2, b1_0, b1_1, b1_2, b4_0, b4_1, b6_0, b6_1, b8_0, b8_1, b11)
  | _ => none
def f40v1.s2b.o0 (y : f40v1.Ty1) : VS := ⟨[(0, .ptr 0 0), (8, .vw true 1 0 3 2), (9, .int .i64 3), (10, .int .i64 1)], [(0, ([.ptr 10 0, .ints .u8 64 y.1, .int .i64 y.2.1, .int .u64 y.2.2.1], 30, .norm)), (1, ([.vw true 4 0 y.2.2.2.1 5, .vw true 6 0 y.2.2.2.2.1 7, .vw true 8 0 y.2.2.2.2.2.1 9], 0, .ro)), (3, ([], 110, .dead)), (4, ([.ints .u8 y.2.2.2.2.2.2.1 y.2.2.2.2.2.2.2.1], 0, .ro)), (6, ([.ints .u8 y.2.2.2.2.2.2.2.2.1 y.2.2.2.2.2.2.2.2.2.1], 0, .ro)), (8, ([.ints .u8 y.2.2.2.2.2.2.2.2.2.2.1 y.2.2.2.2.2.2.2.2.2.2.2.1], 0, .ro)), (10, ([.ints .u32 8 y.2.2.2.2.2.2.2.2.2.2.2.2], 110, .norm))], 11⟩
def f40v1.s2b.des : ∀ α : Type, (f40v1.Ty1) → (Ex → VS → Option α) → Option α := (des1 (.exit 2) f40v1.s2b.o0)
def f40v1.s2b.out : f40v1.Ty1 → Ex × VS := (fun y => (.exit 2, f40v1.s2b.o0 y))
theorem f40v1.s2b.desOK : ∀ α y (k : Ex → VS → Option α), f40v1.s2b.des α y k = k (f40v1.s2b.out y).1 (f40v1.s2b.out y).2 := (fun _ _ _ => rfl)
def f40v1.s2b.inY : Ex → VS → Option (f40v1.Ty1)
  | .exit 2, ⟨[(0, .ptr 0 0), (8, .vw true 1 0 3 2), (9, .int .i64 3), (10, .int .i64 1)], [(0, ([.ptr 10 0, .ints .u8 64 b0_0, .int .i64 b0_1, .int .u64 b0_2], 30, .norm)), (1, ([.vw true 4 0 b1_0 5, .vw true 6 0 b1_1 7, .vw true 8 0 b1_2 9], 0, .ro)), (3, ([], 110, .dead)), (4, ([.ints .u8 b4_0 b4_1], 0, .ro)), (6, ([.ints .u8 b6_0 b6_1], 0, .ro)), (8, ([.ints .u8 b8_0 b8_1], 0, .ro)), (10, ([.ints .u32 8 b10], 110, .norm))], 11⟩ => some (b0_0, b0_1, b0_2, b1_0, b1_1, b1_2, b4_0, b4_1, b6_0, b6_1, b8_0, b8_1, b10)
  | _, _ => none
def f40v1.s2ct (K : Nat) (rec : f40v1.Ty0 → Option (f40v1.Ty1)) (t5_0 : Nat) (t5_1 : Nat) (b0_0 : List Int) (b0_1 : Int) (b0_2 : Int) (b1_0 : Nat) (b1_1 : Nat) (b1_2 : Nat) (b4_0 : Nat) (b4_1 : List Int) (b6_0 : Nat) (b6_1 : List Int) (b8_0 : Nat) (b8_1 : List Int) (b11 : List Int) : Option (f40v1.Ty1) :=
  bif (decide (((t5_1 : Nat) : Int) > 0)) then
    bif decide (0 ≤ b0_1 ∧ b0_1 ≤ 64) then
      let v38 := bif Nat.beq 64 (Int.toNat b0_1) then 0 else (Int.toNat b0_1)
      let v39 := 64 - (Int.toNat b0_1)
      bif (((Nat.ble (t5_0 + t5_1) b8_0 && true) && (Nat.ble (v38 + v39) 64)) && (Nat.beq t5_1 t5_1)) then
        let v41 := ((Nat.min t5_1 v39 : Nat) : Int)
        let v42 := spl b0_0 v38 (Nat.min t5_1 v39) (subI b8_1 t5_0 t5_1)
        bif decide (0 ≤ v41 ∧ v41 ≤ ((t5_1 : Nat) : Int)) then
          let v43 := t5_0 + (Int.toNat v41)
          let v44 := t5_1 - (Int.toNat v41)
          let v45 := IntKind.wrap .i64 (b0_1 + v41)
          bif (v45 == 64) then
            (f62.F K (b11, v42, v45, b0_2, b11)).bind fun y46 =>
            rec (v43, v44, y46.2.1, 0, y46.2.2.2.1, b1_0, b1_1, b1_2, b4_0, b4_1, b6_0, b6_1, b8_0, b8_1, y46.1)
          else
            rec (v43, v44, v42, v45, b0_2, b1_0, b1_1, b1_2, b4_0, b4_1, b6_0, b6_1, b8_0, b8_1, b11)
        else
          none
      else
        none
    else
      none
  else
    some (b0_0, b0_1, b0_2, b1_0, b1_1, b1_2, b4_0, b4_1, b6_0, b6_1, b8_0, b8_1, b11)
def f40v1.s2c (K : Nat) (rec : f40v1.Ty0 → Option (f40v1.Ty1)) (x : f40v1.Ty0) : Option (f40v1.Ty1) := f40v1.s2ct K rec x.1 x.2.1 x.2.2.1 x.2.2.2.1 x.2.2.2.2.1 x.2.2.2.2.2.1 x.2.2.2.2.2.2.1 x.2.2.2.2.2.2.2.1 x.2.2.2.2.2.2.2.2.1 x.2.2.2.2.2.2.2.2.2.1 x.2.2.2.2.2.2.2.2.2.2.1 x.2.2.2.2.2.2.2.2.2.2.2.1 x.2.2.2.2.2.2.2.2.2.2.2.2.1 x.2.2.2.2.2.2.2.2.2.2.2.2.2.1 x.2.2.2.2.2.2.2.2.2.2.2.2.2.2
noncomputable def f40v1.s2c.b : Code := (findLoop 2 f40v1.c).getD .skip
def f40v1.s2c.h : Hint := { lv := [0, 5, 8, 9, 10], co := [(5, 0, [])], mv := [3] }
def f40v1.s2c.ho : Hint := { lv := [0, 8, 9, 10] }
def f40v1.s2c.shp (x : f40v1.Ty0) : VS := ⟨[(0, .ptr 0 0), (5, .vw true 8 x.1 x.2.1 10), (8, .vw true 1 0 3 2), (9, .int .i64 3), (10, .int .i64 2)], [(0, ([.ptr 11 0, .ints .u8 64 x.2.2.1, .int .i64 x.2.2.2.1, .int .u64 x.2.2.2.2.1], 30, .norm)), (1, ([.vw true 4 0 x.2.2.2.2.2.1 5, .vw true 6 0 x.2.2.2.2.2.2.1 7, .vw true 8 0 x.2.2.2.2.2.2.2.1 9], 0, .ro)), (3, ([], 110, .dead)), (4, ([.ints .u8 x.2.2.2.2.2.2.2.2.1 x.2.2.2.2.2.2.2.2.2.1], 0, .ro)), (6, ([.ints .u8 x.2.2.2.2.2.2.2.2.2.2.1 x.2.2.2.2.2.2.2.2.2.2.2.1], 0, .ro)), (8, ([.ints .u8 x.2.2.2.2.2.2.2.2.2.2.2.2.1 x.2.2.2.2.2.2.2.2.2.2.2.2.2.1], 0, .ro)), (11, ([.ints .u32 8 x.2.2.2.2.2.2.2.2.2.2.2.2.2.2], 110, .norm))], 12⟩
def f40v1.s2c.inX : VS → Option (f40v1.Ty0)
  | ⟨[(0, .ptr 0 0), (5, .vw true 8 t5_0 t5_1 10), (8, .vw true 1 0 3 2), (9, .int .i64 3), (10, .int .i64 2)], [(0, ([.ptr 11 0, .ints .u8 64 b0_0, .int .i64 b0_1, .int .u64 b0_2], 30, .norm)), (1, ([.vw true 4 0 b1_0 5, .vw true 6 0 b1_1 7, .vw true 8 0 b1_2 9], 0, .ro)), (3, ([], 110, .dead)), (4, ([.ints .u8 b4_0 b4_1], 0, .ro)), (6, ([.ints .u8 b6_0 b6_1], 0, .ro)), (8, ([.ints .u8 b8_0 b8_1], 0, .ro)), (11, ([.ints .u32 8 b11], 110, .norm))], 12⟩ => some (t5_0, t5_1, b0_0, b0_1, b0_2, b1_0, b1_1, b1_2, b4_0, b4_1, b6_0, b6_1, b8_0, b8_1, b11)
  | _ => none
def f40v1.s2c.o0 (y : f40v1.Ty1) : VS := ⟨[(0, .ptr 0 0), (8, .vw true 1 0 3 2), (9, .int .i64 3), (10, .int .i64 2)], [(0, ([.ptr 10 0, .ints .u8 64 y.1, .int .i64 y.2.1, .int .u64 y.2.2.1], 30, .norm)), (1, ([.vw true 4 0 y.2.2.2.1 5, .vw true 6 0 y.2.2.2.2.1 7, .vw true 8 0 y.2.2.2.2.2.1 9], 0, .ro)), (3, ([], 110, .dead)), (4, ([.ints .u8 y.2.2.2.2.2.2.1 y.2.2.2.2.2.2.2.1], 0, .ro)), (6, ([.ints .u8 y.2.2.2.2.2.2.2.2.1 y.2.2.2.2.2.2.2.2.2.1], 0, .ro)), (8, ([.ints .u8 y.2.2.2.2.2.2.2.2.2.2.1 y.2.2.2.2.2.2.2.2.2.2.2.1], 0, .ro)), (10, ([.ints .u32 8 y.2.2.2.2.2.2.2.2.2.2.2.2], 110, .norm))], 11⟩
def f40v1.s2c.des : ∀ α : Type, (f40v1.Ty1) → (Ex → VS → Option α) → Option α := (des1 (.exit 2) f40v1.s2c.o0)
def f40v1.s2c.out : f40v1.Ty1 → Ex × VS := (fun y => (.exit 2, f40v1.s2c.o0 y))
theorem f40v1.s2c.desOK : ∀ α y (k : Ex → VS → Option α), f40v1.s2c.des α y k = k (f40v1.s2c.out y).1 (f40v1.s2c.out y).2 := (fun _ _ _ => rfl)
def f40v1.s2c.inY : Ex → VS → Option (f40v1.Ty1)
  | .exit 2, ⟨[(0, .ptr 0 0), (8, .vw true 1 0 3 2), (9, .int .i64 3), (10, .int .i64 2)], [(0, ([.ptr 10 0, .ints .u8 64 b0_0, .int .i64 b0_1, .int .u64 b0_2], 30, .norm)), (1, ([.vw true 4 0 b1_0 5, .vw true 6 0 b1_1 7, .vw true 8 0 b1_2 9], 0, .ro)), (3, ([], 110, .dead)), (4, ([.ints .u8 b4_0 b4_1], 0, .ro)), (6, ([.ints .u8 b6_0 b6_1], 0, .ro)), (8, ([.ints .u8 b8_0 b8_1], 0, .ro)), (10, ([.ints .u32 8 b10], 110, .norm))], 11⟩ => some (b0_0, b0_1, b0_2, b1_0, b1_1, b1_2, b4_0, b4_1, b6_0, b6_1, b8_0, b8_1, b10)
  | _, _ => none
def f40v1.lp (K : Nat) : Nat → Option (Hint × Summ) := tabLp [(2, f40v1.s2.h, summOr f40v1.s2.inX (summOf (iter (f40v1.s2 K) K) f40v1.s2.inX f40v1.s2.des) (summOr f40v1.s2b.inX (summOf (iter (f40v1.s2b K) K) f40v1.s2b.inX f40v1.s2b.des) (summOf (iter (f40v1.s2c K) K) f40v1.s2c.inX f40v1.s2c.des)))]
noncomputable def f40v1.tab (K : Nat) : List (Nat × Entry) := [(62, (f62.E K))]
theorem f40v1.tabOK (K : Nat) : SpecOK Try.prog (tabSp (f40v1.tab K)) := tab_ok ((tab_cons (f62.ok K) tab_nil))
theorem f40v1.s2.eq (K : Nat) (rec : f40v1.Ty0 → Option (f40v1.Ty1)) (x : f40v1.Ty0) : f40v1.s2 K rec x = roundL (getA tys) (tabSp (f40v1.tab K)) 76 10 (f40v1.lp K) 400 f40v1.s2.b f40v1.s2.h f40v1.s2.ho f40v1.s2.shp f40v1.s2.inX f40v1.s2.inY rec x := by kernel_rfl
theorem f40v1.s2.lok (K : Nat) : LoopsOK Try.prog 76 10 (f40v1.lp K) f40v1.s2.b := loops_ok (by
  have h : loopsIn (f40v1.lp K) f40v1.s2.b = [] := by kernel_rfl
  rw [h]; simp)
theorem f40v1.s2.ok (K : Nat) : SummOK Try.prog 76 10 (summOf (iter (f40v1.s2 K) K) f40v1.s2.inX f40v1.s2.des) f40v1.s2.b :=
  loop_ok mix tys_ok (f40v1.tabOK K) (h := f40v1.s2.h) (ho := f40v1.s2.ho) (shp := f40v1.s2.shp) (inX := f40v1.s2.inX) (des := f40v1.s2.des) (out := f40v1.s2.out) (inY := f40v1.s2.inY) (fuel := 400)
    (by intro st x h; unfold f40v1.s2.inX at h; split at h <;> simp at h; subst h; rfl)
    (by intro e st y h; unfold f40v1.s2.inY at h; split at h <;> simp at h <;> subst h <;> rfl)
    f40v1.s2.desOK (f40v1.s2.lok K) (f40v1.s2 K) (f40v1.s2.eq K) K
theorem f40v1.s2b.eq (K : Nat) (rec : f40v1.Ty0 → Option (f40v1.Ty1)) (x : f40v1.Ty0) : f40v1.s2b K rec x = roundL (getA tys) (tabSp (f40v1.tab K)) 76 10 (f40v1.lp K) 400 f40v1.s2b.b f40v1.s2b.h f40v1.s2b.ho f40v1.s2b.shp f40v1.s2b.inX f40v1.s2b.inY rec x := by kernel_rfl
theorem f40v1.s2b.lok (K : Nat) : LoopsOK Try.prog 76 10 (f40v1.lp K) f40v1.s2b.b := loops_ok (by
  have h : loopsIn (f40v1.lp K) f40v1.s2b.b = [] := by kernel_rfl
  rw [h]; simp)
theorem f40v1.s2b.ok (K : Nat) : SummOK Try.prog 76 10 (summOf (iter (f40v1.s2b K) K) f40v1.s2b.inX f40v1.s2b.des) f40v1.s2b.b :=
  loop_ok mix tys_ok (f40v1.tabOK K) (h := f40v1.s2b.h) (ho := f40v1.s2b.ho) (shp := f40v1.s2b.shp) (inX := f40v1.s2b.inX) (des := f40v1.s2b.des) (out := f40v1.s2b.out) (inY := f40v1.s2b.inY) (fuel := 400)
    (by intro st x h; unfold f40v1.s2b.inX at h; split at h <;> simp at h; subst h; rfl)
    (by intro e st y h; unfold f40v1.s2b.inY at h; split at h <;> simp at h <;> subst h <;> rfl)
    f40v1.s2b.desOK (f40v1.s2b.lok K) (f40v1.s2b K) (f40v1.s2b.eq K) K
theorem f40v1.s2c.eq (K : Nat) (rec : f40v1.Ty0 → Option (f40v1.Ty1)) (x : f40v1.Ty0) : f40v1.s2c K rec x = roundL (getA tys) (tabSp (f40v1.tab K)) 76 10 (f40v1.lp K) 400 f40v1.s2c.b f40v1.s2c.h f40v1.s2c.ho f40v1.s2c.shp f40v1.s2c.inX f40v1.s2c.inY rec x := by kernel_rfl
theorem f40v1.s2c.lok (K : Nat) : LoopsOK Try.prog 76 10 (f40v1.lp K) f40v1.s2c.b := loops_ok (by
  have h : loopsIn (f40v1.lp K) f40v1.s2c.b = [] := by kernel_rfl
  rw [h]; simp)
theorem f40v1.s2c.ok (K : Nat) : SummOK Try.prog 76 10 (summOf (iter (f40v1.s2c K) K) f40v1.s2c.inX f40v1.s2c.des) f40v1.s2c.b :=
  loop_ok mix tys_ok (f40v1.tabOK K) (h := f40v1.s2c.h) (ho := f40v1.s2c.ho) (shp := f40v1.s2c.shp) (inX := f40v1.s2c.inX) (des := f40v1.s2c.des) (out := f40v1.s2c.out) (inY := f40v1.s2c.inY) (fuel := 400)
    (by intro st x h; unfold f40v1.s2c.inX at h; split at h <;> simp at h; subst h; rfl)
    (by intro e st y h; unfold f40v1.s2c.inY at h; split at h <;> simp at h <;> subst h <;> rfl)
    f40v1.s2c.desOK (f40v1.s2c.lok K) (f40v1.s2c K) (f40v1.s2c.eq K) K
theorem f40v1.loops (K : Nat) : LoopsOK Try.prog 76 10 (f40v1.lp K) f40v1.c := loops_ok (by
  have h : loopsIn (f40v1.lp K) f40v1.c = [(2, f40v1.s2.b)] := by kernel_rfl
  rw [h]
  intro p hp
  simp only [List.mem_cons, List.not_mem_nil, or_false] at hp
  rcases hp with rfl
  · exact ⟨_, rfl, (summOr_ok (f40v1.s2.ok K) (summOr_ok (f40v1.s2b.ok K) (f40v1.s2c.ok K)))⟩)
def f40v1.T (K : Nat) (m0_0 : List Int) (m0_1 : Int) (m0_2 : Int) (m1_0 : Nat) (m1_1 : Nat) (m1_2 : Nat) (m3 : List Int) (m4_0 : Nat) (m4_1 : List Int) (m6_0 : Nat) (m6_1 : List Int) (m8_0 : Nat) (m8_1 : List Int) : Option (f40v1.Ty1) :=
  (iter (f40v1.s2 K) K (0, m1_0, m0_0, m0_1, (IntKind.wrap .u64 (m0_2 + (IntKind.wrap .u64 ((m1_0 : Nat) : Int)))), m1_0, m1_1, m1_2, m4_0, m4_1, m6_0, m6_1, m8_0, m8_1, m3)).bind fun y15 =>
  let v16 := y15.2.2.2.2.1
  (iter (f40v1.s2b K) K (0, v16, y15.1, y15.2.1, (IntKind.wrap .u64 (y15.2.2.1 + (IntKind.wrap .u64 ((v16 : Nat) : Int)))), y15.2.2.2.1, y15.2.2.2.2.1, y15.2.2.2.2.2.1, y15.2.2.2.2.2.2.1, y15.2.2.2.2.2.2.2.1, y15.2.2.2.2.2.2.2.2.1, y15.2.2.2.2.2.2.2.2.2.1, y15.2.2.2.2.2.2.2.2.2.2.1, y15.2.2.2.2.2.2.2.2.2.2.2.1, y15.2.2.2.2.2.2.2.2.2.2.2.2)).bind fun y31 =>
  let v32 := y31.2.2.2.2.2.1
  (iter (f40v1.s2c K) K (0, v32, y31.1, y31.2.1, (IntKind.wrap .u64 (y31.2.2.1 + (IntKind.wrap .u64 ((v32 : Nat) : Int)))), y31.2.2.2.1, y31.2.2.2.2.1, y31.2.2.2.2.2.1, y31.2.2.2.2.2.2.1, y31.2.2.2.2.2.2.2.1, y31.2.2.2.2.2.2.2.2.1, y31.2.2.2.2.2.2.2.2.2.1, y31.2.2.2.2.2.2.2.2.2.2.1, y31.2.2.2.2.2.2.2.2.2.2.2.1, y31.2.2.2.2.2.2.2.2.2.2.2.2)).bind fun y47 =>
  some (y47.1, y47.2.1, y47.2.2.1, y47.2.2.2.1, y47.2.2.2.2.1, y47.2.2.2.2.2.1, y47.2.2.2.2.2.2.1, y47.2.2.2.2.2.2.2.1, y47.2.2.2.2.2.2.2.2.1, y47.2.2.2.2.2.2.2.2.2.1, y47.2.2.2.2.2.2.2.2.2.2.1, y47.2.2.2.2.2.2.2.2.2.2.2.1, y47.2.2.2.2.2.2.2.2.2.2.2.2)
def f40v1.F (K : Nat) (x : f40v1.Ty2) : Option (f40v1.Ty1) := f40v1.T K x.1 x.2.1 x.2.2.1 x.2.2.2.1 x.2.2.2.2.1 x.2.2.2.2.2.1 x.2.2.2.2.2.2.1 x.2.2.2.2.2.2.2.1 x.2.2.2.2.2.2.2.2.1 x.2.2.2.2.2.2.2.2.2.1 x.2.2.2.2.2.2.2.2.2.2.1 x.2.2.2.2.2.2.2.2.2.2.2.1 x.2.2.2.2.2.2.2.2.2.2.2.2
def f40v1.av (_x : f40v1.Ty2) : List VV := [.ptr 0 0, .vw true 1 0 3 2]
def f40v1.bl (x : f40v1.Ty2) : List (Nat × Blk) := [(0, ([.ptr 3 0, .ints .u8 64 x.1, .int .i64 x.2.1, .int .u64 x.2.2.1], 30, .norm)), (1, ([.vw true 4 0 x.2.2.2.1 5, .vw true 6 0 x.2.2.2.2.1 7, .vw true 8 0 x.2.2.2.2.2.1 9], 0, .ro)), (3, ([.ints .u32 8 x.2.2.2.2.2.2.1], 110, .norm)), (4, ([.ints .u8 x.2.2.2.2.2.2.2.1 x.2.2.2.2.2.2.2.2.1], 0, .ro)), (6, ([.ints .u8 x.2.2.2.2.2.2.2.2.2.1 x.2.2.2.2.2.2.2.2.2.2.1], 0, .ro)), (8, ([.ints .u8 x.2.2.2.2.2.2.2.2.2.2.2.1 x.2.2.2.2.2.2.2.2.2.2.2.2], 0, .ro))]
def f40v1.inA : VS → Option (f40v1.Ty2)
  | ⟨[(0, .ptr 0 0), (1, .vw true 1 0 3 2)], [(0, ([.ptr 3 0, .ints .u8 64 m0_0, .int .i64 m0_1, .int .u64 m0_2], 30, .norm)), (1, ([.vw true 4 0 m1_0 5, .vw true 6 0 m1_1 7, .vw true 8 0 m1_2 9], 0, .ro)), (3, ([.ints .u32 8 m3], 110, .norm)), (4, ([.ints .u8 m4_0 m4_1], 0, .ro)), (6, ([.ints .u8 m6_0 m6_1], 0, .ro)), (8, ([.ints .u8 m8_0 m8_1], 0, .ro))], 10⟩ => some (m0_0, m0_1, m0_2, m1_0, m1_1, m1_2, m3, m4_0, m4_1, m6_0, m6_1, m8_0, m8_1)
  | _ => none
def f40v1.o0 (y : f40v1.Ty1) : VS := ⟨[(0, .tup [])], [(0, ([.ptr 10 0, .ints .u8 64 y.1, .int .i64 y.2.1, .int .u64 y.2.2.1], 30, .norm)), (1, ([.vw true 4 0 y.2.2.2.1 5, .vw true 6 0 y.2.2.2.2.1 7, .vw true 8 0 y.2.2.2.2.2.1 9], 0, .ro)), (3, ([], 110, .dead)), (4, ([.ints .u8 y.2.2.2.2.2.2.1 y.2.2.2.2.2.2.2.1], 0, .ro)), (6, ([.ints .u8 y.2.2.2.2.2.2.2.2.1 y.2.2.2.2.2.2.2.2.2.1], 0, .ro)), (8, ([.ints .u8 y.2.2.2.2.2.2.2.2.2.2.1 y.2.2.2.2.2.2.2.2.2.2.2.1], 0, .ro)), (10, ([.ints .u32 8 y.2.2.2.2.2.2.2.2.2.2.2.2], 110, .norm))], 11⟩
def f40v1.des : ∀ α : Type, (f40v1.Ty1) → (VS → Option α) → Option α := (dv1 f40v1.o0)
def f40v1.out : f40v1.Ty1 → VS := f40v1.o0
def f40v1.inR : VS → Option (f40v1.Ty1)
  | ⟨[(0, .tup [])], [(0, ([.ptr 10 0, .ints .u8 64 z0_0, .int .i64 z0_1, .int .u64 z0_2], 30, .norm)), (1, ([.vw true 4 0 z1_0 5, .vw true 6 0 z1_1 7, .vw true 8 0 z1_2 9], 0, .ro)), (3, ([], 110, .dead)), (4, ([.ints .u8 z4_0 z4_1], 0, .ro)), (6, ([.ints .u8 z6_0 z6_1], 0, .ro)), (8, ([.ints .u8 z8_0 z8_1], 0, .ro)), (10, ([.ints .u32 8 z10], 110, .norm))], 11⟩ => some (z0_0, z0_1, z0_2, z1_0, z1_1, z1_2, z4_0, z4_1, z6_0, z6_1, z8_0, z8_1, z10)
  | _ => none
noncomputable def f40v1.E (K : Nat) : Entry := genE 10 f40v1.inA (f40v1.F K) f40v1.des
theorem f40v1.eq (K : Nat) (x : f40v1.Ty2) : f40v1.F K x = xrun (getA tys) (tabSp (f40v1.tab K)) Try.f40.ntmps 10 (f40v1.lp K) 400 f40v1.c ⟨initL 0 (f40v1.av x), f40v1.bl x, 10⟩ (contF (getA tys) 10 Try.f40.results.toList f40v1.inR) := by kernel_rfl
theorem f40v1.ok (K : Nat) : EntryOK Try.prog 40 (f40v1.E K) :=
  gen_ok mix tys_ok (f40v1.tabOK K) Try.func40 (by kernel_rfl : Try.f40.body = some f40v1.c) (by kernel_rfl) (f40v1.loops K) (av := f40v1.av) (bl := f40v1.bl) (out := f40v1.out) (fuel := 400)
    (by intro s x h; unfold f40v1.inA at h; split at h <;> simp at h; subst h; rfl) (fun _ => Nat.le_of_ble_eq_true rfl)
    (by intro s y h; unfold f40v1.inR at h; split at h <;> simp at h <;> subst h <;> rfl) (fun _ _ _ => rfl) (f40v1.eq K)
end Go.Proofs

namespace Go.Proofs
open Go.VM
def Sh.init : List Int := [1779033703, 3144134277, 1013904242, 2773480762, 1359893119, 2600822924, 528734635, 1541459225]
def Sh.chain (m : List Int) : Nat → List Int
  | 0 => Sh.init
  | n + 1 => Sh.comp (Sh.chain m n) ((m.drop (64 * n)).take 64)
theorem Sh.chain_append (m q : List Int) : ∀ n, 64 * n ≤ m.length → Sh.chain (m ++ q) n = Sh.chain m n
  | 0, _ => rfl
  | n + 1, h => by
    rw [Sh.chain, Sh.chain, Sh.chain_append m q n (by omega), List.drop_append_of_le_length (by omega), List.take_append_of_le_length (by simp; omega)]
structure Sh.Rep (m : List Int) (b : List Int) (h : Int) (s : List Int) : Prop where
  len : b.length = 64
  oct : octets b
  held : h = ((m.length % 64 : Nat) : Int)
  rest : b.take (m.length % 64) = m.drop (64 * (m.length / 64))
  st : s = Sh.chain m (m.length / 64)
theorem padT_take (l : List Int) (n : Nat) (h : n ≤ l.length) : padT l n = l.take n := by
  have := subI_cut l 0 n (by omega)
  rw [List.drop_zero] at this
  rw [← this]
  simp [padT, subI]
theorem Sh.Rep.block {m b s : List Int} {h : Int} (R : Sh.Rep m b h s) (q L : List Int) (k : Nat) (hk : q.length = k) (hL : L.take k = q) (hle : k ≤ L.length) (hr : m.length % 64 + k ≤ 64) :
    spl b (m.length % 64) k L = m.drop (64 * (m.length / 64)) ++ q ++ b.drop (m.length % 64 + k) := by
  rw [spl, padT_take b _ (by have := R.len; omega), padT_take L k hle, hL, R.rest]
theorem Sh.Rep.some {m b s : List Int} {h : Int} (R : Sh.Rep m b h s) (q L : List Int) (k : Nat) (hk : q.length = k) (ho : octets L) (hL : L.take k = q) (hle : k ≤ L.length) (hr : m.length % 64 + k < 64) :
    Sh.Rep (m ++ q) (spl b (m.length % 64) k L) (h + k) s := by
  have e := R.block q L k hk hL hle (by omega)
  have l1 : (m ++ q).length / 64 = m.length / 64 := by rw [List.length_append]; omega
  have l2 : (m ++ q).length % 64 = m.length % 64 + k := by rw [List.length_append]; omega
  have d : (m.drop (64 * (m.length / 64))).length = m.length % 64 := by rw [List.length_drop]; omega
  refine ⟨?_, octets_spl R.oct ho _ _, ?_, ?_, ?_⟩
  · have dd : (b.drop (m.length % 64 + k)).length = 64 - (m.length % 64 + k) := by rw [List.length_drop, R.len]
    rw [e, List.length_append, List.length_append, dd, d, hk]; omega
  · rw [R.held, l2]; omega
  · rw [l1, l2, e, List.take_append_of_le_length (by rw [List.length_append, d]; omega), List.take_of_length_le (by rw [List.length_append, d]; omega), List.drop_append_of_le_length (by omega)]
  · rw [l1, Sh.chain_append _ _ _ (by omega)]; exact R.st
end Go.Proofs

namespace Go.Proofs
open Go.VM
abbrev f16v2.Ty0 := List Int × List Int × Int × Int
abbrev f16v2.Ty1 := List Int × Int × Int × List Int
def f16v2.T (K : Nat) (m0_0 : List Int) (m0_1 : Int) (m0_2 : Int) (m1 : List Int) : Option (f16v2.Ty0) :=
  let v2 := Int.tmod (IntKind.wrap .i64 (119 - m0_1)) 64
  bif lenOK v2 v2 1 then
    let v3 := Int.toNat v2
    (f41.F K (0, (IntKind.wrap .u64 (8 * m0_2)), 8, 0, [])).bind fun y7 =>
    bif ((Nat.ble (0 + v3) (Int.toNat v2) && (Nat.ble v3 (Int.toNat v2))) && ((Nat.ble (0 + y7.1) y7.2.2.2.2.1 && (Nat.ble y7.1 y7.2.1)) && true)) then
      (f40v1.F K (m0_0, m0_1, m0_2, 1, v3, y7.1, m1, 1, [128], v3, (subI [] 0 v3), y7.1, (subI y7.2.2.2.2.2 0 y7.1))).bind fun y8 =>
      (f41.F K (0, (IntKind.wrap .u64 (List.getD y8.2.2.2.2.2.2.2.2.2.2.2.2 0 0)), 4, 0, [])).bind fun y11 =>
      bif ((Nat.ble (0 + y11.1) y11.2.2.2.2.1 && (Nat.ble y11.1 y11.2.1)) && true) then
        (f41.F K (y11.1, (IntKind.wrap .u64 (List.getD y8.2.2.2.2.2.2.2.2.2.2.2.2 1 0)), 4, y11.1, (subI y11.2.2.2.2.2 0 y11.1))).bind fun y14 =>
        bif ((Nat.ble (0 + y14.1) y14.2.2.2.2.1 && (Nat.ble y14.1 y14.2.1)) && true) then
          (f41.F K (y14.1, (IntKind.wrap .u64 (List.getD y8.2.2.2.2.2.2.2.2.2.2.2.2 2 0)), 4, y14.1, (subI y14.2.2.2.2.2 0 y14.1))).bind fun y17 =>
          bif ((Nat.ble (0 + y17.1) y17.2.2.2.2.1 && (Nat.ble y17.1 y17.2.1)) && true) then
            (f41.F K (y17.1, (IntKind.wrap .u64 (List.getD y8.2.2.2.2.2.2.2.2.2.2.2.2 3 0)), 4, y17.1, (subI y17.2.2.2.2.2 0 y17.1))).bind fun y20 =>
            bif ((Nat.ble (0 + y20.1) y20.2.2.2.2.1 && (Nat.ble y20.1 y20.2.1)) && true) then
              (f41.F K (y20.1, (IntKind.wrap .u64 (List.getD y8.2.2.2.2.2.2.2.2.2.2.2.2 4 0)), 4, y20.1, (subI y20.2.2.2.2.2 0 y20.1))).bind fun y23 =>
              bif ((Nat.ble (0 + y23.1) y23.2.2.2.2.1 && (Nat.ble y23.1 y23.2.1)) && true) then
                (f41.F K (y23.1, (IntKind.wrap .u64 (List.getD y8.2.2.2.2.2.2.2.2.2.2.2.2 5 0)), 4, y23.1, (subI y23.2.2.2.2.2 0 y23.1))).bind fun y26 =>
                bif ((Nat.ble (0 + y26.1) y26.2.2.2.2.1 && (Nat.ble y26.1 y26.2.1)) && true) then
                  (f41.F K (y26.1, (IntKind.wrap .u64 (List.getD y8.2.2.2.2.2.2.2.2.2.2.2.2 6 0)), 4, y26.1, (subI y26.2.2.2.2.2 0 y26.1))).bind fun y29 =>
                  bif ((Nat.ble (0 + y29.1) y29.2.2.2.2.1 && (Nat.ble y29.1 y29.2.1)) && true) then
                    (f41.F K (y29.1, (IntKind.wrap .u64 (List.getD y8.2.2.2.2.2.2.2.2.2.2.2.2 7 0)), 4, y29.1, (subI y29.2.2.2.2.2 0 y29.1))).bind fun y32 =>
                    bif ((Nat.ble (0 + y32.1) y32.2.2.2.2.1 && true) && (Nat.beq y32.1 y32.1)) then
                      some ((spl [0, 0, 0, 0, 0, 0, 0, 0, 0, 0, 0, 0, 0, 0, 0, 0, 0, 0, 0, 0, 0, 0, 0, 0, 0, 0, 0, 0, 0, 0, 0, 0] 0 (Nat.min y32.1 32) (subI y32.2.2.2.2.2 0 y32.1)), m0_0, m0_1, m0_2)
                    else
                      none
                  else
                    none
                else
                  none
              else
                none
            else
              none
          else
            none
        else
          none
      else
        none
    else
      none
  else
    none
def f16v2.F (K : Nat) (x : f16v2.Ty1) : Option (f16v2.Ty0) := f16v2.T K x.1 x.2.1 x.2.2.1 x.2.2.2
def f16v2.av (_x : f16v2.Ty1) : List VV := [.ptr 0 0]
def f16v2.bl (x : f16v2.Ty1) : List (Nat × Blk) := [(0, ([.ptr 1 0, .ints .u8 64 x.1, .int .i64 x.2.1, .int .u64 x.2.2.1], 30, .norm)), (1, ([.ints .u32 8 x.2.2.2], 110, .norm))]
def f16v2.inA : VS → Option (f16v2.Ty1)
  | ⟨[(0, .ptr 0 0)], [(0, ([.ptr 1 0, .ints .u8 64 m0_0, .int .i64 m0_1, .int .u64 m0_2], 30, .norm)), (1, ([.ints .u32 8 m1], 110, .norm))], 2⟩ => some (m0_0, m0_1, m0_2, m1)
  | _ => none
def f16v2.o0 (y : f16v2.Ty0) : VS := ⟨[(0, .agg [.ints .u8 32 y.1])], [(0, ([.ptr 1 0, .ints .u8 64 y.2.1, .int .i64 y.2.2.1, .int .u64 y.2.2.2], 30, .norm)), (1, ([], 110, .dead))], 2⟩
def f16v2.inR : VS → Option (f16v2.Ty0)
  | ⟨[(0, .agg [.ints .u8 32 y])], [(0, ([.ptr 1 0, .ints .u8 64 z0_0, .int .i64 z0_1, .int .u64 z0_2], 30, .norm)), (1, ([], 110, .dead))], 2⟩ => some (y, z0_0, z0_1, z0_2)
  | _ => none
noncomputable def f16v2.E (K : Nat) : Entry := genE 2 f16v2.inA (f16v2.F K) (dv1 f16v2.o0)
theorem f16v2.ok (K : Nat) : EntryOK Try.prog 16 (f16v2.E K) := gen_ok mix tys_ok (sp := tabSp [(41, (viewE [(0, .u8)] (f41.E K))), (40, (rowsE 1 .u8 (f40v1.E K)))]) (tab_ok ((tab_cons (view_ok (f41.ok K)) (tab_cons (rows_ok (f40v1.ok K)) tab_nil)))) Try.func16 (c := bodyOf Try.f16) (by kernel_rfl) (by kernel_rfl) (loops_none (lp := lpNone) (by kernel_rfl)) (av := f16v2.av) (bl := f16v2.bl) (inR := f16v2.inR) (out := f16v2.o0) (fuel := 400)
  (by intro s x h; unfold f16v2.inA at h; split at h <;> simp at h; subst h; rfl) (fun _ => Nat.le_of_ble_eq_true rfl)
  (by intro s y h; unfold f16v2.inR at h; split at h <;> simp at h <;> subst h <;> rfl) (fun _ _ _ => rfl) (fun _ => by kernel_rfl)
end Go.Proofs

namespace Go.Proofs
open Go.VM
def Sh.padded (m : List Int) : List Int := m ++ [128] ++ List.replicate ((119 - m.length % 64) % 64) 0 ++ be 8 (8 * m.length)
def Sh.digest (s : List Int) : List Int := (List.range 8).flatMap fun i => be 4 (IntKind.wrap .u64 (s.getD i 0)).toNat
def Sh.sum (m : List Int) : List Int := Sh.digest (Sh.chain (Sh.padded m) ((Sh.padded m).length / 64))
theorem sub_zero (l : List Int) (n : Nat) (h : l = []) : subI l 0 n = List.replicate n 0 := by
  subst h
  refine List.ext_getElem? fun i => ?_
  by_cases hi : i < n
  · simp [subI, hi]
  · rw [List.getElem?_eq_none (by simpa [subI] using hi), List.getElem?_eq_none (by simpa using hi)]
end Go.Proofs

namespace Go.Proofs
open Go.VM
abbrev f42.Ty0 := List Int × Int × Int × List Int
def f42.T (_K : Nat)  : Option (f42.Ty0) :=
  some ([0, 0, 0, 0, 0, 0, 0, 0, 0, 0, 0, 0, 0, 0, 0, 0, 0, 0, 0, 0, 0, 0, 0, 0, 0, 0, 0, 0, 0, 0, 0, 0, 0, 0, 0, 0, 0, 0, 0, 0, 0, 0, 0, 0, 0, 0, 0, 0, 0, 0, 0, 0, 0, 0, 0, 0, 0, 0, 0, 0, 0, 0, 0, 0], 0, 0, [1779033703, 3144134277, 1013904242, 2773480762, 1359893119, 2600822924, 528734635, 1541459225])
def f42.F (K : Nat) (_x : Unit) : Option (f42.Ty0) := f42.T K
def f42.av (_x : Unit) : List VV := []
def f42.bl (_x : Unit) : List (Nat × Blk) := []
def f42.inA : VS → Option (Unit)
  | ⟨[], [], 0⟩ => some ()
  | _ => none
def f42.o0 (y : f42.Ty0) : VS := ⟨[(0, .ptr 0 0)], [(0, ([.ptr 1 0, .ints .u8 64 y.1, .int .i64 y.2.1, .int .u64 y.2.2.1], 30, .norm)), (1, ([.ints .u32 8 y.2.2.2], 110, .norm))], 2⟩
def f42.inR : VS → Option (f42.Ty0)
  | ⟨[(0, .ptr 0 0)], [(0, ([.ptr 1 0, .ints .u8 64 z0_0, .int .i64 z0_1, .int .u64 z0_2], 30, .norm)), (1, ([.ints .u32 8 z1], 110, .norm))], 2⟩ => some (z0_0, z0_1, z0_2, z1)
  | _ => none
noncomputable def f42.E (K : Nat) : Entry := genE 0 f42.inA (f42.F K) (dv1 f42.o0)
theorem f42.ok (K : Nat) : EntryOK Try.prog 42 (f42.E K) := gen_ok mix tys_ok (tab_ok ( tab_nil)) Try.func42 (c := bodyOf Try.f42) (by kernel_rfl) (by kernel_rfl) (loops_none (lp := lpNone) (by kernel_rfl)) (av := f42.av) (bl := f42.bl) (inR := f42.inR) (out := f42.o0) (fuel := 400)
  (by intro s x h; unfold f42.inA at h; split at h <;> simp at h; rfl) (fun _ => Nat.le_of_ble_eq_true rfl)
  (by intro s y h; unfold f42.inR at h; split at h <;> simp at h <;> subst h <;> rfl) (fun _ _ _ => rfl) (fun _ => by kernel_rfl)
end Go.Proofs

namespace Go.Proofs
open Go.VM
abbrev f18.Ty0 := List Int × Nat × List Int
abbrev f18.Ty1 := Nat × Nat × List Int
def f18.T (K : Nat) (a0 : Nat) (m0_0 : Nat) (m0_1 : List Int) : Option (f18.Ty0) :=
  (f42.F K ()).bind fun y1 =>
  bif ((Nat.ble (0 + a0) m0_0 && true) && true) then
    (f40.F K (y1.1, y1.2.1, y1.2.2.1, a0, y1.2.2.2, a0, (subI m0_1 0 a0))).bind fun y2 =>
    (f16v2.F K (y2.1, y2.2.1, y2.2.2.1, y2.2.2.2.2.2.2)).bind fun y3 =>
    some (y3.1, m0_0, m0_1)
  else
    none
def f18.F (K : Nat) (x : f18.Ty1) : Option (f18.Ty0) := f18.T K x.1 x.2.1 x.2.2
def f18.av (x : f18.Ty1) : List VV := [.vw true 0 0 x.1 1]
def f18.bl (x : f18.Ty1) : List (Nat × Blk) := [(0, ([.ints .u8 x.2.1 x.2.2], 0, .ro))]
def f18.inA : VS → Option (f18.Ty1)
  | ⟨[(0, .vw true 0 0 a0 1)], [(0, ([.ints .u8 m0_0 m0_1], 0, .ro))], 2⟩ => some (a0, m0_0, m0_1)
  | _ => none
def f18.o0 (y : f18.Ty0) : VS := ⟨[(0, .agg [.ints .u8 32 y.1])], [(0, ([.ints .u8 y.2.1 y.2.2], 0, .ro))], 2⟩
def f18.inR : VS → Option (f18.Ty0)
  | ⟨[(0, .agg [.ints .u8 32 y])], [(0, ([.ints .u8 z0_0 z0_1], 0, .ro))], 2⟩ => some (y, z0_0, z0_1)
  | _ => none
noncomputable def f18.E (K : Nat) : Entry := genE 2 f18.inA (f18.F K) (dv1 f18.o0)
theorem f18.ok (K : Nat) : EntryOK Try.prog 18 (f18.E K) := gen_ok mix tys_ok (sp := tabSp [(42, (f42.E K)), (40, (rowsE 1 .u8 (f40.E K))), (16, (f16v2.E K))]) (tab_ok ((tab_cons (f42.ok K) (tab_cons (rows_ok (f40.ok K)) (tab_cons (f16v2.ok K) tab_nil))))) Try.func18 (c := bodyOf Try.f18) (by kernel_rfl) (by kernel_rfl) (loops_none (lp := lpNone) (by kernel_rfl)) (av := f18.av) (bl := f18.bl) (inR := f18.inR) (out := f18.o0) (fuel := 400)
  (by intro s x h; unfold f18.inA at h; split at h <;> simp at h; subst h; rfl) (fun _ => Nat.le_of_ble_eq_true rfl)
  (by intro s y h; unfold f18.inR at h; split at h <;> simp at h <;> subst h <;> rfl) (fun _ _ _ => rfl) (fun _ => by kernel_rfl)
end Go.Proofs

namespace Go.Proofs
open Go.VM
abbrev f15v2.Ty0 := Int × List Int × Int × Int × Nat × List Int × List Int
abbrev f15v2.Ty1 := Nat × List Int × Int × Int × Nat × List Int × List Int
def f15v2.T (K : Nat) (a1 : Nat) (m0_0 : List Int) (m0_1 : Int) (m0_2 : Int) (m1_0 : Nat) (m1_1 : List Int) (m3 : List Int) : Option (f15v2.Ty0) :=
  bif ((Nat.ble (0 + a1) m1_0 && true) && true) then
    (f40.F K (m0_0, m0_1, m0_2, a1, m3, a1, (subI m1_1 0 a1))).bind fun y1 =>
    some (0, y1.1, y1.2.1, y1.2.2.1, m1_0, m1_1, y1.2.2.2.2.2.2)
  else
    none
def f15v2.F (K : Nat) (x : f15v2.Ty1) : Option (f15v2.Ty0) := f15v2.T K x.1 x.2.1 x.2.2.1 x.2.2.2.1 x.2.2.2.2.1 x.2.2.2.2.2.1 x.2.2.2.2.2.2
def f15v2.av (x : f15v2.Ty1) : List VV := [.ptr 0 0, .vw true 1 0 x.1 2]
def f15v2.bl (x : f15v2.Ty1) : List (Nat × Blk) := [(0, ([.ptr 3 0, .ints .u8 64 x.2.1, .int .i64 x.2.2.1, .int .u64 x.2.2.2.1], 30, .norm)), (1, ([.ints .u8 x.2.2.2.2.1 x.2.2.2.2.2.1], 0, .ro)), (3, ([.ints .u32 8 x.2.2.2.2.2.2], 110, .norm))]
def f15v2.inA : VS → Option (f15v2.Ty1)
  | ⟨[(0, .ptr 0 0), (1, .vw true 1 0 a1 2)], [(0, ([.ptr 3 0, .ints .u8 64 m0_0, .int .i64 m0_1, .int .u64 m0_2], 30, .norm)), (1, ([.ints .u8 m1_0 m1_1], 0, .ro)), (3, ([.ints .u32 8 m3], 110, .norm))], 4⟩ => some (a1, m0_0, m0_1, m0_2, m1_0, m1_1, m3)
  | _ => none
def f15v2.o0 (y : f15v2.Ty0) : VS := ⟨[(0, .int .i64 y.1)], [(0, ([.ptr 4 0, .ints .u8 64 y.2.1, .int .i64 y.2.2.1, .int .u64 y.2.2.2.1], 30, .norm)), (1, ([.ints .u8 y.2.2.2.2.1 y.2.2.2.2.2.1], 0, .ro)), (3, ([], 110, .dead)), (4, ([.ints .u32 8 y.2.2.2.2.2.2], 110, .norm))], 5⟩
def f15v2.inR : VS → Option (f15v2.Ty0)
  | ⟨[(0, .int .i64 y)], [(0, ([.ptr 4 0, .ints .u8 64 z0_0, .int .i64 z0_1, .int .u64 z0_2], 30, .norm)), (1, ([.ints .u8 z1_0 z1_1], 0, .ro)), (3, ([], 110, .dead)), (4, ([.ints .u32 8 z4], 110, .norm))], 5⟩ => some (y, z0_0, z0_1, z0_2, z1_0, z1_1, z4)
  | _ => none
noncomputable def f15v2.E (K : Nat) : Entry := genE 4 f15v2.inA (f15v2.F K) (dv1 f15v2.o0)
theorem f15v2.ok (K : Nat) : EntryOK Try.prog 15 (f15v2.E K) := gen_ok mix tys_ok (sp := tabSp [(40, (rowsE 1 .u8 (f40.E K)))]) (tab_ok ((tab_cons (rows_ok (f40.ok K)) tab_nil))) Try.func15 (c := bodyOf Try.f15) (by kernel_rfl) (by kernel_rfl) (loops_none (lp := lpNone) (by kernel_rfl)) (av := f15v2.av) (bl := f15v2.bl) (inR := f15v2.inR) (out := f15v2.o0) (fuel := 400)
  (by intro s x h; unfold f15v2.inA at h; split at h <;> simp at h; subst h; rfl) (fun _ => Nat.le_of_ble_eq_true rfl)
  (by intro s y h; unfold f15v2.inR at h; split at h <;> simp at h <;> subst h <;> rfl) (fun _ _ _ => rfl) (fun _ => by kernel_rfl)
end Go.Proofs

namespace Go.Proofs
open Go.VM
abbrev f46.Ty0 := Int × Int × List Int × List Int
abbrev f46.Ty1 := List Int × List Int
abbrev f46.Ty2 := Int × List Int
noncomputable def f46.c : Code := bodyOf Try.f46
def f46.s0t (_K : Nat) (rec : f46.Ty0 → Option (f46.Ty1)) (t0 : Int) (t7 : Int) (b0 : List Int) (b1 : List Int) : Option (f46.Ty1) :=
  bif (decide (t7 < 64)) then
    bif decide (0 ≤ t7 ∧ t7 < 64) then
      bif decide (0 ≤ t7 ∧ t7 < 64) then
        rec (t0, (IntKind.wrap .i64 (t7 + 1)), b0, (setD b1 (Int.toNat t7) (bits .xor .u8 (List.getD b1 (Int.toNat t7) 0) t0)))
      else
        none
    else
      none
  else
    some (b0, b1)
def f46.s0 (K : Nat) (rec : f46.Ty0 → Option (f46.Ty1)) (x : f46.Ty0) : Option (f46.Ty1) := f46.s0t K rec x.1 x.2.1 x.2.2.1 x.2.2.2
noncomputable def f46.s0.b : Code := (findLoop 0 f46.c).getD .skip
def f46.s0.h : Hint := { lv := [0, 4, 7] }
def f46.s0.ho : Hint := { lv := [4] }
def f46.s0.shp (x : f46.Ty0) : VS := ⟨[(0, .int .u8 x.1), (4, .ptr 1 0), (7, .int .i64 x.2.1)], [(0, ([.ints .u8 64 x.2.2.1], 25, .norm)), (1, ([.ints .u8 64 x.2.2.2], 25, .norm))], 2⟩
def f46.s0.inX : VS → Option (f46.Ty0)
  | ⟨[(0, .int .u8 t0), (4, .ptr 1 0), (7, .int .i64 t7)], [(0, ([.ints .u8 64 b0], 25, .norm)), (1, ([.ints .u8 64 b1], 25, .norm))], 2⟩ => some (t0, t7, b0, b1)
  | _ => none
def f46.s0.o0 (y : f46.Ty1) : VS := ⟨[(4, .ptr 1 0)], [(0, ([.ints .u8 64 y.1], 25, .norm)), (1, ([.ints .u8 64 y.2], 25, .norm))], 2⟩
def f46.s0.des : ∀ α : Type, (f46.Ty1) → (Ex → VS → Option α) → Option α := (des1 (.exit 0) f46.s0.o0)
def f46.s0.out : f46.Ty1 → Ex × VS := (fun y => (.exit 0, f46.s0.o0 y))
theorem f46.s0.desOK : ∀ α y (k : Ex → VS → Option α), f46.s0.des α y k = k (f46.s0.out y).1 (f46.s0.out y).2 := (fun _ _ _ => rfl)
def f46.s0.inY : Ex → VS → Option (f46.Ty1)
  | .exit 0, ⟨[(4, .ptr 1 0)], [(0, ([.ints .u8 64 b0], 25, .norm)), (1, ([.ints .u8 64 b1], 25, .norm))], 2⟩ => some (b0, b1)
  | _, _ => none
def f46.lp (K : Nat) : Nat → Option (Hint × Summ) := tabLp [(0, f46.s0.h, summOf (iter (f46.s0 K) K) f46.s0.inX f46.s0.des)]
noncomputable def f46.tab (_K : Nat) : List (Nat × Entry) := []
theorem f46.tabOK (K : Nat) : SpecOK Try.prog (tabSp (f46.tab K)) := tab_ok ( tab_nil)
theorem f46.s0.eq (K : Nat) (rec : f46.Ty0 → Option (f46.Ty1)) (x : f46.Ty0) : f46.s0 K rec x = roundL (getA tys) (tabSp (f46.tab K)) 18 1 (f46.lp K) 400 f46.s0.b f46.s0.h f46.s0.ho f46.s0.shp f46.s0.inX f46.s0.inY rec x := by kernel_rfl
theorem f46.s0.lok (K : Nat) : LoopsOK Try.prog 18 1 (f46.lp K) f46.s0.b := loops_ok (by
  have h : loopsIn (f46.lp K) f46.s0.b = [] := by kernel_rfl
  rw [h]; simp)
theorem f46.s0.ok (K : Nat) : SummOK Try.prog 18 1 (summOf (iter (f46.s0 K) K) f46.s0.inX f46.s0.des) f46.s0.b :=
  loop_ok mix tys_ok (f46.tabOK K) (h := f46.s0.h) (ho := f46.s0.ho) (shp := f46.s0.shp) (inX := f46.s0.inX) (des := f46.s0.des) (out := f46.s0.out) (inY := f46.s0.inY) (fuel := 400)
    (by intro st x h; unfold f46.s0.inX at h; split at h <;> simp at h; subst h; rfl)
    (by intro e st y h; unfold f46.s0.inY at h; split at h <;> simp at h <;> subst h <;> rfl)
    f46.s0.desOK (f46.s0.lok K) (f46.s0 K) (f46.s0.eq K) K
theorem f46.loops (K : Nat) : LoopsOK Try.prog 18 1 (f46.lp K) f46.c := loops_ok (by
  have h : loopsIn (f46.lp K) f46.c = [(0, f46.s0.b)] := by kernel_rfl
  rw [h]
  intro p hp
  simp only [List.mem_cons, List.not_mem_nil, or_false] at hp
  rcases hp with rfl
  · exact ⟨_, rfl, (f46.s0.ok K)⟩)
def f46.T (K : Nat) (a0 : Int) (m0 : List Int) : Option (f46.Ty1) :=
  (iter (f46.s0 K) K (a0, 0, m0, m0)).bind fun y8 =>
  some (y8.1, y8.2)
def f46.F (K : Nat) (x : f46.Ty2) : Option (f46.Ty1) := f46.T K x.1 x.2
def f46.av (x : f46.Ty2) : List VV := [.int .u8 x.1, .ptr 0 0]
def f46.bl (x : f46.Ty2) : List (Nat × Blk) := [(0, ([.ints .u8 64 x.2], 25, .norm))]
def f46.inA : VS → Option (f46.Ty2)
  | ⟨[(0, .int .u8 a0), (1, .ptr 0 0)], [(0, ([.ints .u8 64 m0], 25, .norm))], 1⟩ => some (a0, m0)
  | _ => none
def f46.o0 (y : f46.Ty1) : VS := ⟨[(0, .sl 1 0 64 64)], [(0, ([.ints .u8 64 y.1], 25, .norm)), (1, ([.ints .u8 64 y.2], 25, .norm))], 2⟩
def f46.des : ∀ α : Type, (f46.Ty1) → (VS → Option α) → Option α := (dv1 f46.o0)
def f46.out : f46.Ty1 → VS := f46.o0
def f46.inR : VS → Option (f46.Ty1)
  | ⟨[(0, .sl 1 0 64 64)], [(0, ([.ints .u8 64 z0], 25, .norm)), (1, ([.ints .u8 64 z1], 25, .norm))], 2⟩ => some (z0, z1)
  | _ => none
noncomputable def f46.E (K : Nat) : Entry := genE 1 f46.inA (f46.F K) f46.des
theorem f46.eq (K : Nat) (x : f46.Ty2) : f46.F K x = xrun (getA tys) (tabSp (f46.tab K)) Try.f46.ntmps 1 (f46.lp K) 400 f46.c ⟨initL 0 (f46.av x), f46.bl x, 1⟩ (contF (getA tys) 1 Try.f46.results.toList f46.inR) := by kernel_rfl
theorem f46.ok (K : Nat) : EntryOK Try.prog 46 (f46.E K) :=
  gen_ok mix tys_ok (f46.tabOK K) Try.func46 (by kernel_rfl : Try.f46.body = some f46.c) (by kernel_rfl) (f46.loops K) (av := f46.av) (bl := f46.bl) (out := f46.out) (fuel := 400)
    (by intro s x h; unfold f46.inA at h; split at h <;> simp at h; subst h; rfl) (fun _ => Nat.le_of_ble_eq_true rfl)
    (by intro s y h; unfold f46.inR at h; split at h <;> simp at h <;> subst h <;> rfl) (fun _ _ _ => rfl) (f46.eq K)
end Go.Proofs

namespace Go.Proofs
open Go.VM
end Go.Proofs

namespace Go.Proofs
open Go.VM
abbrev f22.Ty0 := List Int × Nat × List Int × Nat × Nat × Nat × List Int × Nat × List Int
abbrev f22.Ty1 := Nat × Nat × List Int × Nat × Nat × Nat × List Int × Nat × List Int
def f22.T (K : Nat) (a0 : Nat) (m0_0 : Nat) (m0_1 : List Int) (m2_0 : Nat) (m2_1 : Nat) (m4_0 : Nat) (m4_1 : List Int) (m6_0 : Nat) (m6_1 : List Int) : Option (f22.Ty0) :=
  bif (decide (((a0 : Nat) : Int) > 64)) then
    bif ((Nat.ble (0 + a0) m0_0 && true) && true) then
      (f18.F K (a0, a0, (subI m0_1 0 a0))).bind fun y3 =>
      (f42.F K ()).bind fun y5 =>
      (f42.F K ()).bind fun y6 =>
      (f46.F K (54, (spl [0, 0, 0, 0, 0, 0, 0, 0, 0, 0, 0, 0, 0, 0, 0, 0, 0, 0, 0, 0, 0, 0, 0, 0, 0, 0, 0, 0, 0, 0, 0, 0, 0, 0, 0, 0, 0, 0, 0, 0, 0, 0, 0, 0, 0, 0, 0, 0, 0, 0, 0, 0, 0, 0, 0, 0, 0, 0, 0, 0, 0, 0, 0, 0] 0 32 (subI y3.1 0 32)))).bind fun y7 =>
      (f15v2.F K (64, y5.1, y5.2.1, y5.2.2.1, 64, (subI y7.2 0 64), y5.2.2.2)).bind fun y8 =>
      bif ((Nat.ble (0 + m2_0) m4_0 && true) && true) then
        (f15v2.F K (m2_0, y8.2.1, y8.2.2.1, y8.2.2.2.1, m2_0, (subI m4_1 0 m2_0), y8.2.2.2.2.2.2)).bind fun y9 =>
        bif ((Nat.ble (0 + m2_1) m6_0 && true) && true) then
          (f15v2.F K (m2_1, y9.2.1, y9.2.2.1, y9.2.2.2.1, m2_1, (subI m6_1 0 m2_1), y9.2.2.2.2.2.2)).bind fun y10 =>
          (f16v2.F K (y10.2.1, y10.2.2.1, y10.2.2.2.1, y10.2.2.2.2.2.2)).bind fun y11 =>
          (f46.F K (92, y7.1)).bind fun y12 =>
          (f15v2.F K (64, y6.1, y6.2.1, y6.2.2.1, 64, (subI y12.2 0 64), y6.2.2.2)).bind fun y13 =>
          (f15v2.F K (32, y13.2.1, y13.2.2.1, y13.2.2.2.1, 32, (subI y11.1 0 32), y13.2.2.2.2.2.2)).bind fun y14 =>
          (f16v2.F K (y14.2.1, y14.2.2.1, y14.2.2.2.1, y14.2.2.2.2.2.2)).bind fun y15 =>
          some (y15.1, m0_0, m0_1, m2_0, m2_1, m4_0, m4_1, m6_0, m6_1)
        else
          none
      else
        none
    else
      none
  else
    bif ((Nat.ble (0 + a0) m0_0 && true) && (Nat.beq a0 a0)) then
      (f42.F K ()).bind fun y18 =>
      (f42.F K ()).bind fun y19 =>
      (f46.F K (54, (spl [0, 0, 0, 0, 0, 0, 0, 0, 0, 0, 0, 0, 0, 0, 0, 0, 0, 0, 0, 0, 0, 0, 0, 0, 0, 0, 0, 0, 0, 0, 0, 0, 0, 0, 0, 0, 0, 0, 0, 0, 0, 0, 0, 0, 0, 0, 0, 0, 0, 0, 0, 0, 0, 0, 0, 0, 0, 0, 0, 0, 0, 0, 0, 0] 0 (Nat.min a0 64) (subI m0_1 0 a0)))).bind fun y20 =>
      (f15v2.F K (64, y18.1, y18.2.1, y18.2.2.1, 64, (subI y20.2 0 64), y18.2.2.2)).bind fun y21 =>
      bif ((Nat.ble (0 + m2_0) m4_0 && true) && true) then
        (f15v2.F K (m2_0, y21.2.1, y21.2.2.1, y21.2.2.2.1, m2_0, (subI m4_1 0 m2_0), y21.2.2.2.2.2.2)).bind fun y22 =>
        bif ((Nat.ble (0 + m2_1) m6_0 && true) && true) then
          (f15v2.F K (m2_1, y22.2.1, y22.2.2.1, y22.2.2.2.1, m2_1, (subI m6_1 0 m2_1), y22.2.2.2.2.2.2)).bind fun y23 =>
          (f16v2.F K (y23.2.1, y23.2.2.1, y23.2.2.2.1, y23.2.2.2.2.2.2)).bind fun y24 =>
          (f46.F K (92, y20.1)).bind fun y25 =>
          (f15v2.F K (64, y19.1, y19.2.1, y19.2.2.1, 64, (subI y25.2 0 64), y19.2.2.2)).bind fun y26 =>
          (f15v2.F K (32, y26.2.1, y26.2.2.1, y26.2.2.2.1, 32, (subI y24.1 0 32), y26.2.2.2.2.2.2)).bind fun y27 =>
          (f16v2.F K (y27.2.1, y27.2.2.1, y27.2.2.2.1, y27.2.2.2.2.2.2)).bind fun y28 =>
          some (y28.1, m0_0, m0_1, m2_0, m2_1, m4_0, m4_1, m6_0, m6_1)
        else
          none
      else
        none
    else
      none
def f22.F (K : Nat) (x : f22.Ty1) : Option (f22.Ty0) := f22.T K x.1 x.2.1 x.2.2.1 x.2.2.2.1 x.2.2.2.2.1 x.2.2.2.2.2.1 x.2.2.2.2.2.2.1 x.2.2.2.2.2.2.2.1 x.2.2.2.2.2.2.2.2
def f22.av (x : f22.Ty1) : List VV := [.vw true 0 0 x.1 1, .vw true 2 0 2 3]
def f22.bl (x : f22.Ty1) : List (Nat × Blk) := [(0, ([.ints .u8 x.2.1 x.2.2.1], 0, .ro)), (2, ([.vw true 4 0 x.2.2.2.1 5, .vw true 6 0 x.2.2.2.2.1 7], 0, .ro)), (4, ([.ints .u8 x.2.2.2.2.2.1 x.2.2.2.2.2.2.1], 0, .ro)), (6, ([.ints .u8 x.2.2.2.2.2.2.2.1 x.2.2.2.2.2.2.2.2], 0, .ro))]
def f22.inA : VS → Option (f22.Ty1)
  | ⟨[(0, .vw true 0 0 a0 1), (1, .vw true 2 0 2 3)], [(0, ([.ints .u8 m0_0 m0_1], 0, .ro)), (2, ([.vw true 4 0 m2_0 5, .vw true 6 0 m2_1 7], 0, .ro)), (4, ([.ints .u8 m4_0 m4_1], 0, .ro)), (6, ([.ints .u8 m6_0 m6_1], 0, .ro))], 8⟩ => some (a0, m0_0, m0_1, m2_0, m2_1, m4_0, m4_1, m6_0, m6_1)
  | _ => none
def f22.o0 (y : f22.Ty0) : VS := ⟨[(0, .agg [.ints .u8 32 y.1])], [(0, ([.ints .u8 y.2.1 y.2.2.1], 0, .ro)), (2, ([.vw true 4 0 y.2.2.2.1 5, .vw true 6 0 y.2.2.2.2.1 7], 0, .ro)), (4, ([.ints .u8 y.2.2.2.2.2.1 y.2.2.2.2.2.2.1], 0, .ro)), (6, ([.ints .u8 y.2.2.2.2.2.2.2.1 y.2.2.2.2.2.2.2.2], 0, .ro))], 8⟩
def f22.inR : VS → Option (f22.Ty0)
  | ⟨[(0, .agg [.ints .u8 32 y])], [(0, ([.ints .u8 z0_0 z0_1], 0, .ro)), (2, ([.vw true 4 0 z2_0 5, .vw true 6 0 z2_1 7], 0, .ro)), (4, ([.ints .u8 z4_0 z4_1], 0, .ro)), (6, ([.ints .u8 z6_0 z6_1], 0, .ro))], 8⟩ => some (y, z0_0, z0_1, z2_0, z2_1, z4_0, z4_1, z6_0, z6_1)
  | _ => none
noncomputable def f22.E (K : Nat) : Entry := genE 8 f22.inA (f22.F K) (dv1 f22.o0)
theorem f22.ok (K : Nat) : EntryOK Try.prog 22 (f22.E K) := gen_ok mix tys_ok (sp := tabSp [(18, (viewE [(0, .u8)] (f18.E K))), (42, (f42.E K)), (46, (f46.E K)), (15, (viewE [(1, .u8)] (f15v2.E K))), (16, (f16v2.E K))]) (tab_ok ((tab_cons (view_ok (f18.ok K)) (tab_cons (f42.ok K) (tab_cons (f46.ok K) (tab_cons (view_ok (f15v2.ok K)) (tab_cons (f16v2.ok K) tab_nil))))))) Try.func22 (c := bodyOf Try.f22) (by kernel_rfl) (by kernel_rfl) (loops_none (lp := lpNone) (by kernel_rfl)) (av := f22.av) (bl := f22.bl) (inR := f22.inR) (out := f22.o0) (fuel := 400)
  (by intro s x h; unfold f22.inA at h; split at h <;> simp at h; subst h; rfl) (fun _ => Nat.le_of_ble_eq_true rfl)
  (by intro s y h; unfold f22.inR at h; split at h <;> simp at h <;> subst h <;> rfl) (fun _ _ _ => rfl) (fun _ => by kernel_rfl)
end Go.Proofs

namespace Go.Proofs
open Go.VM
theorem list_getD {l m : List Int} (h : l.length = m.length) (g : ∀ i, i < l.length → l.getD i 0 = m.getD i 0) : l = m := by
  apply List.ext_getElem h
  intro i h1 h2
  have := g i h1
  simpa [List.getD_eq_getElem?_getD, h1, h2] using this
theorem wrap8 (z : Int) : IntKind.wrap .u8 z = z % 256 := by simp [IntKind.wrap, IntKind.signed, IntKind.bits]
theorem xor_octet (x y : Int) : 0 ≤ bits .xor .u8 x y ∧ bits .xor .u8 x y < 256 := by
  show 0 ≤ IntKind.wrap .u8 _ ∧ IntKind.wrap .u8 _ < 256
  rw [wrap8]
  omega
def Sh.key (k : List Int) : List Int := padT (if 64 < k.length then Sh.sum k else k) 64
end Go.Proofs

namespace Go.Proofs
open Go.VM
abbrev f17.Ty0 := Nat × Nat × Nat × Int × Nat × List Int × Nat × List Int
abbrev f17.Ty1 := Nat × Nat × Nat × Nat × List Int × Nat × List Int
abbrev f17.Ty2 := Nat × Nat × Nat × List Int × Nat × List Int
abbrev f17.Ty3 := Nat × Nat × List Int
noncomputable def f17.c : Code := bodyOf Try.f17
def f17.s0t (_K : Nat) (rec : f17.Ty0 → Option (f17.Ty1)) (t0 : Nat) (t3_0 : Nat) (t3_1 : Nat) (t4 : Int) (b0_0 : Nat) (b0_1 : List Int) (b2_0 : Nat) (b2_1 : List Int) : Option (f17.Ty1) :=
  bif (decide (t4 < ((t0 : Nat) : Int))) then
    bif decide (0 ≤ t4 ∧ t4 < ((t0 : Nat) : Int)) then
      let v7 := 0 + (Int.toNat t4)
      bif Nat.blt v7 b0_0 then
        bif ((Nat.ble (t3_0 + 1) t3_1 && (Nat.ble ((0 + t3_0) + 1) b2_0)) && (Nat.blt 0 b2_0)) then
          rec (t0, (t3_0 + 1), t3_1, (IntKind.wrap .i64 (t4 + 1)), b0_0, b0_1, b2_0, (spl b2_1 (0 + t3_0) 1 [(List.getD b0_1 v7 0)]))
        else
          none
      else
        none
    else
      none
  else
    some (t0, t3_0, t3_1, b0_0, b0_1, b2_0, b2_1)
def f17.s0 (K : Nat) (rec : f17.Ty0 → Option (f17.Ty1)) (x : f17.Ty0) : Option (f17.Ty1) := f17.s0t K rec x.1 x.2.1 x.2.2.1 x.2.2.2.1 x.2.2.2.2.1 x.2.2.2.2.2.1 x.2.2.2.2.2.2.1 x.2.2.2.2.2.2.2
noncomputable def f17.s0.b : Code := (findLoop 0 f17.c).getD .skip
def f17.s0.h : Hint := { lv := [0, 3, 4] }
def f17.s0.ho : Hint := { lv := [0, 3] }
def f17.s0.shp (x : f17.Ty0) : VS := ⟨[(0, .vw true 0 0 x.1 1), (3, .sl 2 0 x.2.1 x.2.2.1), (4, .int .i64 x.2.2.2.1)], [(0, ([.ints .u8 x.2.2.2.2.1 x.2.2.2.2.2.1], 0, .ro)), (2, ([.ints .u8 x.2.2.2.2.2.2.1 x.2.2.2.2.2.2.2], 5, .norm))], 3⟩
def f17.s0.inX : VS → Option (f17.Ty0)
  | ⟨[(0, .vw true 0 0 t0 1), (3, .sl 2 0 t3_0 t3_1), (4, .int .i64 t4)], [(0, ([.ints .u8 b0_0 b0_1], 0, .ro)), (2, ([.ints .u8 b2_0 b2_1], 5, .norm))], 3⟩ => some (t0, t3_0, t3_1, t4, b0_0, b0_1, b2_0, b2_1)
  | _ => none
def f17.s0.o0 (y : f17.Ty1) : VS := ⟨[(0, .vw true 0 0 y.1 1), (3, .sl 2 0 y.2.1 y.2.2.1)], [(0, ([.ints .u8 y.2.2.2.1 y.2.2.2.2.1], 0, .ro)), (2, ([.ints .u8 y.2.2.2.2.2.1 y.2.2.2.2.2.2], 5, .norm))], 3⟩
def f17.s0.des : ∀ α : Type, (f17.Ty1) → (Ex → VS → Option α) → Option α := (des1 (.exit 0) f17.s0.o0)
def f17.s0.out : f17.Ty1 → Ex × VS := (fun y => (.exit 0, f17.s0.o0 y))
theorem f17.s0.desOK : ∀ α y (k : Ex → VS → Option α), f17.s0.des α y k = k (f17.s0.out y).1 (f17.s0.out y).2 := (fun _ _ _ => rfl)
def f17.s0.inY : Ex → VS → Option (f17.Ty1)
  | .exit 0, ⟨[(0, .vw true 0 0 t0 1), (3, .sl 2 0 t3_0 t3_1)], [(0, ([.ints .u8 b0_0 b0_1], 0, .ro)), (2, ([.ints .u8 b2_0 b2_1], 5, .norm))], 3⟩ => some (t0, t3_0, t3_1, b0_0, b0_1, b2_0, b2_1)
  | _, _ => none
def f17.lp (K : Nat) : Nat → Option (Hint × Summ) := tabLp [(0, f17.s0.h, summOf (iter (f17.s0 K) K) f17.s0.inX f17.s0.des)]
noncomputable def f17.tab (_K : Nat) : List (Nat × Entry) := []
theorem f17.tabOK (K : Nat) : SpecOK Try.prog (tabSp (f17.tab K)) := tab_ok ( tab_nil)
theorem f17.s0.eq (K : Nat) (rec : f17.Ty0 → Option (f17.Ty1)) (x : f17.Ty0) : f17.s0 K rec x = roundL (getA tys) (tabSp (f17.tab K)) 28 2 (f17.lp K) 400 f17.s0.b f17.s0.h f17.s0.ho f17.s0.shp f17.s0.inX f17.s0.inY rec x := by kernel_rfl
theorem f17.s0.lok (K : Nat) : LoopsOK Try.prog 28 2 (f17.lp K) f17.s0.b := loops_ok (by
  have h : loopsIn (f17.lp K) f17.s0.b = [] := by kernel_rfl
  rw [h]; simp)
theorem f17.s0.ok (K : Nat) : SummOK Try.prog 28 2 (summOf (iter (f17.s0 K) K) f17.s0.inX f17.s0.des) f17.s0.b :=
  loop_ok mix tys_ok (f17.tabOK K) (h := f17.s0.h) (ho := f17.s0.ho) (shp := f17.s0.shp) (inX := f17.s0.inX) (des := f17.s0.des) (out := f17.s0.out) (inY := f17.s0.inY) (fuel := 400)
    (by intro st x h; unfold f17.s0.inX at h; split at h <;> simp at h; subst h; rfl)
    (by intro e st y h; unfold f17.s0.inY at h; split at h <;> simp at h <;> subst h <;> rfl)
    f17.s0.desOK (f17.s0.lok K) (f17.s0 K) (f17.s0.eq K) K
theorem f17.loops (K : Nat) : LoopsOK Try.prog 28 2 (f17.lp K) f17.c := loops_ok (by
  have h : loopsIn (f17.lp K) f17.c = [(0, f17.s0.b)] := by kernel_rfl
  rw [h]
  intro p hp
  simp only [List.mem_cons, List.not_mem_nil, or_false] at hp
  rcases hp with rfl
  · exact ⟨_, rfl, (f17.s0.ok K)⟩)
def f17.T (K : Nat) (a0 : Nat) (m0_0 : Nat) (m0_1 : List Int) : Option (f17.Ty2) :=
  let v2 := IntKind.wrap .i64 (((a0 : Nat) : Int) + 1)
  bif lenOK 0 v2 1 then
    (iter (f17.s0 K) K (a0, 0, (Int.toNat v2), 0, m0_0, m0_1, (Int.toNat v2), [])).bind fun y11 =>
    bif ((Nat.ble (y11.2.1 + 1) y11.2.2.1 && (Nat.ble ((0 + y11.2.1) + 1) y11.2.2.2.2.2.1)) && (Nat.blt 0 y11.2.2.2.2.2.1)) then
      let v14 := ((y11.1 : Nat) : Int)
      bif (decide (0 ≤ v14 ∧ v14 ≤ ((y11.2.2.1 : Nat) : Int)) && true) then
        some ((Int.toNat v14), y11.2.2.1, y11.2.2.2.1, y11.2.2.2.2.1, y11.2.2.2.2.2.1, (spl y11.2.2.2.2.2.2 (0 + y11.2.1) 1 [77]))
      else
        none
    else
      none
  else
    none
def f17.F (K : Nat) (x : f17.Ty3) : Option (f17.Ty2) := f17.T K x.1 x.2.1 x.2.2
def f17.av (x : f17.Ty3) : List VV := [.vw true 0 0 x.1 1]
def f17.bl (x : f17.Ty3) : List (Nat × Blk) := [(0, ([.ints .u8 x.2.1 x.2.2], 0, .ro))]
def f17.inA : VS → Option (f17.Ty3)
  | ⟨[(0, .vw true 0 0 a0 1)], [(0, ([.ints .u8 m0_0 m0_1], 0, .ro))], 2⟩ => some (a0, m0_0, m0_1)
  | _ => none
def f17.o0 (y : f17.Ty2) : VS := ⟨[(0, .sl 2 0 y.1 y.2.1)], [(0, ([.ints .u8 y.2.2.1 y.2.2.2.1], 0, .ro)), (2, ([.ints .u8 y.2.2.2.2.1 y.2.2.2.2.2], 5, .norm))], 3⟩
def f17.des : ∀ α : Type, (f17.Ty2) → (VS → Option α) → Option α := (dv1 f17.o0)
def f17.out : f17.Ty2 → VS := f17.o0
def f17.inR : VS → Option (f17.Ty2)
  | ⟨[(0, .sl 2 0 y_0 y_1)], [(0, ([.ints .u8 z0_0 z0_1], 0, .ro)), (2, ([.ints .u8 z2_0 z2_1], 5, .norm))], 3⟩ => some (y_0, y_1, z0_0, z0_1, z2_0, z2_1)
  | _ => none
noncomputable def f17.E (K : Nat) : Entry := genE 2 f17.inA (f17.F K) f17.des
theorem f17.eq (K : Nat) (x : f17.Ty3) : f17.F K x = xrun (getA tys) (tabSp (f17.tab K)) Try.f17.ntmps 2 (f17.lp K) 400 f17.c ⟨initL 0 (f17.av x), f17.bl x, 2⟩ (contF (getA tys) 2 Try.f17.results.toList f17.inR) := by kernel_rfl
theorem f17.ok (K : Nat) : EntryOK Try.prog 17 (f17.E K) :=
  gen_ok mix tys_ok (f17.tabOK K) Try.func17 (by kernel_rfl : Try.f17.body = some f17.c) (by kernel_rfl) (f17.loops K) (av := f17.av) (bl := f17.bl) (out := f17.out) (fuel := 400)
    (by intro s x h; unfold f17.inA at h; split at h <;> simp at h; subst h; rfl) (fun _ => Nat.le_of_ble_eq_true rfl)
    (by intro s y h; unfold f17.inR at h; split at h <;> simp at h <;> subst h <;> rfl) (fun _ _ _ => rfl) (f17.eq K)
end Go.Proofs

namespace Go.Proofs
open Go.VM
end Go.Proofs

namespace Go.Proofs
open Go.VM
abbrev f23.Ty0 := Nat × Nat × Int × Int × Int × Nat × List Int × Nat × List Int
abbrev f23.Ty1 := Nat × Nat × Nat × List Int × Nat × List Int
abbrev f23.Ty2 := Bool × Nat × List Int × Nat × List Int
abbrev f23.Ty3 := Int × Nat × List Int × Nat × List Int
noncomputable def f23.c : Code := bodyOf Try.f23
def f23.s0t (_K : Nat) (rec : f23.Ty0 → Option (f23.Ty3)) (t0 : Nat) (t1 : Nat) (t5 : Int) (t13 : Int) (t14 : Int) (b0_0 : Nat) (b0_1 : List Int) (b2_0 : Nat) (b2_1 : List Int) : Option (f23.Ty3) :=
  bif (decide (t14 < t13)) then
    bif decide (0 ≤ t14 ∧ t14 < ((t0 : Nat) : Int)) then
      let v5 := 0 + (Int.toNat t14)
      bif Nat.blt v5 b0_0 then
        bif decide (0 ≤ t14 ∧ t14 < ((t1 : Nat) : Int)) then
          let v7 := 0 + (Int.toNat t14)
          bif Nat.blt v7 b2_0 then
            rec (t0, t1, (bits .or .u8 t5 (bits .xor .u8 (List.getD b0_1 v5 0) (List.getD b2_1 v7 0))), t13, (IntKind.wrap .i64 (t14 + 1)), b0_0, b0_1, b2_0, b2_1)
          else
            none
        else
          none
      else
        none
    else
      none
  else
    some (t5, b0_0, b0_1, b2_0, b2_1)
def f23.s0 (K : Nat) (rec : f23.Ty0 → Option (f23.Ty3)) (x : f23.Ty0) : Option (f23.Ty3) := f23.s0t K rec x.1 x.2.1 x.2.2.1 x.2.2.2.1 x.2.2.2.2.1 x.2.2.2.2.2.1 x.2.2.2.2.2.2.1 x.2.2.2.2.2.2.2.1 x.2.2.2.2.2.2.2.2
noncomputable def f23.s0.b : Code := (findLoop 0 f23.c).getD .skip
def f23.s0.h : Hint := { lv := [0, 1, 5, 13, 14] }
def f23.s0.ho : Hint := { lv := [5] }
def f23.s0.shp (x : f23.Ty0) : VS := ⟨[(0, .vw true 0 0 x.1 1), (1, .vw true 2 0 x.2.1 3), (5, .int .u8 x.2.2.1), (13, .int .i64 x.2.2.2.1), (14, .int .i64 x.2.2.2.2.1)], [(0, ([.ints .u8 x.2.2.2.2.2.1 x.2.2.2.2.2.2.1], 0, .ro)), (2, ([.ints .u8 x.2.2.2.2.2.2.2.1 x.2.2.2.2.2.2.2.2], 0, .ro))], 4⟩
def f23.s0.inX : VS → Option (f23.Ty0)
  | ⟨[(0, .vw true 0 0 t0 1), (1, .vw true 2 0 t1 3), (5, .int .u8 t5), (13, .int .i64 t13), (14, .int .i64 t14)], [(0, ([.ints .u8 b0_0 b0_1], 0, .ro)), (2, ([.ints .u8 b2_0 b2_1], 0, .ro))], 4⟩ => some (t0, t1, t5, t13, t14, b0_0, b0_1, b2_0, b2_1)
  | _ => none
def f23.s0.o0 (y : f23.Ty3) : VS := ⟨[(5, .int .u8 y.1)], [(0, ([.ints .u8 y.2.1 y.2.2.1], 0, .ro)), (2, ([.ints .u8 y.2.2.2.1 y.2.2.2.2], 0, .ro))], 4⟩
def f23.s0.des : ∀ α : Type, (f23.Ty3) → (Ex → VS → Option α) → Option α := (des1 (.exit 0) f23.s0.o0)
def f23.s0.out : f23.Ty3 → Ex × VS := (fun y => (.exit 0, f23.s0.o0 y))
theorem f23.s0.desOK : ∀ α y (k : Ex → VS → Option α), f23.s0.des α y k = k (f23.s0.out y).1 (f23.s0.out y).2 := (fun _ _ _ => rfl)
def f23.s0.inY : Ex → VS → Option (f23.Ty3)
  | .exit 0, ⟨[(5, .int .u8 t5)], [(0, ([.ints .u8 b0_0 b0_1], 0, .ro)), (2, ([.ints .u8 b2_0 b2_1], 0, .ro))], 4⟩ => some (t5, b0_0, b0_1, b2_0, b2_1)
  | _, _ => none
def f23.lp (K : Nat) : Nat → Option (Hint × Summ) := tabLp [(0, f23.s0.h, summOf (iter (f23.s0 K) K) f23.s0.inX f23.s0.des)]
noncomputable def f23.tab (_K : Nat) : List (Nat × Entry) := []
theorem f23.tabOK (K : Nat) : SpecOK Try.prog (tabSp (f23.tab K)) := tab_ok ( tab_nil)
theorem f23.s0.eq (K : Nat) (rec : f23.Ty0 → Option (f23.Ty3)) (x : f23.Ty0) : f23.s0 K rec x = roundL (getA tys) (tabSp (f23.tab K)) 31 4 (f23.lp K) 400 f23.s0.b f23.s0.h f23.s0.ho f23.s0.shp f23.s0.inX f23.s0.inY rec x := by kernel_rfl
theorem f23.s0.lok (K : Nat) : LoopsOK Try.prog 31 4 (f23.lp K) f23.s0.b := loops_ok (by
  have h : loopsIn (f23.lp K) f23.s0.b = [] := by kernel_rfl
  rw [h]; simp)
theorem f23.s0.ok (K : Nat) : SummOK Try.prog 31 4 (summOf (iter (f23.s0 K) K) f23.s0.inX f23.s0.des) f23.s0.b :=
  loop_ok mix tys_ok (f23.tabOK K) (h := f23.s0.h) (ho := f23.s0.ho) (shp := f23.s0.shp) (inX := f23.s0.inX) (des := f23.s0.des) (out := f23.s0.out) (inY := f23.s0.inY) (fuel := 400)
    (by intro st x h; unfold f23.s0.inX at h; split at h <;> simp at h; subst h; rfl)
    (by intro e st y h; unfold f23.s0.inY at h; split at h <;> simp at h <;> subst h <;> rfl)
    f23.s0.desOK (f23.s0.lok K) (f23.s0 K) (f23.s0.eq K) K
theorem f23.loops (K : Nat) : LoopsOK Try.prog 31 4 (f23.lp K) f23.c := loops_ok (by
  have h : loopsIn (f23.lp K) f23.c = [(0, f23.s0.b)] := by kernel_rfl
  rw [h]
  intro p hp
  simp only [List.mem_cons, List.not_mem_nil, or_false] at hp
  rcases hp with rfl
  · exact ⟨_, rfl, (f23.s0.ok K)⟩)
def f23.T (K : Nat) (a0 : Nat) (a1 : Nat) (m0_0 : Nat) (m0_1 : List Int) (m2_0 : Nat) (m2_1 : List Int) : Option (f23.Ty2) :=
  bif (((a0 : Nat) : Int) != ((a1 : Nat) : Int)) then
    some (false, m0_0, m0_1, m2_0, m2_1)
  else
    (iter (f23.s0 K) K (a0, a1, 0, ((a0 : Nat) : Int), 0, m0_0, m0_1, m2_0, m2_1)).bind fun y12 =>
    some ((y12.1 == 0), y12.2.1, y12.2.2.1, y12.2.2.2.1, y12.2.2.2.2)
def f23.F (K : Nat) (x : f23.Ty1) : Option (f23.Ty2) := f23.T K x.1 x.2.1 x.2.2.1 x.2.2.2.1 x.2.2.2.2.1 x.2.2.2.2.2
def f23.av (x : f23.Ty1) : List VV := [.vw true 0 0 x.1 1, .vw true 2 0 x.2.1 3]
def f23.bl (x : f23.Ty1) : List (Nat × Blk) := [(0, ([.ints .u8 x.2.2.1 x.2.2.2.1], 0, .ro)), (2, ([.ints .u8 x.2.2.2.2.1 x.2.2.2.2.2], 0, .ro))]
def f23.inA : VS → Option (f23.Ty1)
  | ⟨[(0, .vw true 0 0 a0 1), (1, .vw true 2 0 a1 3)], [(0, ([.ints .u8 m0_0 m0_1], 0, .ro)), (2, ([.ints .u8 m2_0 m2_1], 0, .ro))], 4⟩ => some (a0, a1, m0_0, m0_1, m2_0, m2_1)
  | _ => none
def f23.o0 (y : f23.Ty2) : VS := ⟨[(0, .bool y.1)], [(0, ([.ints .u8 y.2.1 y.2.2.1], 0, .ro)), (2, ([.ints .u8 y.2.2.2.1 y.2.2.2.2], 0, .ro))], 4⟩
def f23.des : ∀ α : Type, (f23.Ty2) → (VS → Option α) → Option α := (dv1 f23.o0)
def f23.out : f23.Ty2 → VS := f23.o0
def f23.inR : VS → Option (f23.Ty2)
  | ⟨[(0, .bool y)], [(0, ([.ints .u8 z0_0 z0_1], 0, .ro)), (2, ([.ints .u8 z2_0 z2_1], 0, .ro))], 4⟩ => some (y, z0_0, z0_1, z2_0, z2_1)
  | _ => none
noncomputable def f23.E (K : Nat) : Entry := genE 4 f23.inA (f23.F K) f23.des
theorem f23.eq (K : Nat) (x : f23.Ty1) : f23.F K x = xrun (getA tys) (tabSp (f23.tab K)) Try.f23.ntmps 4 (f23.lp K) 400 f23.c ⟨initL 0 (f23.av x), f23.bl x, 4⟩ (contF (getA tys) 4 Try.f23.results.toList f23.inR) := by kernel_rfl
theorem f23.ok (K : Nat) : EntryOK Try.prog 23 (f23.E K) :=
  gen_ok mix tys_ok (f23.tabOK K) Try.func23 (by kernel_rfl : Try.f23.body = some f23.c) (by kernel_rfl) (f23.loops K) (av := f23.av) (bl := f23.bl) (out := f23.out) (fuel := 400)
    (by intro s x h; unfold f23.inA at h; split at h <;> simp at h; subst h; rfl) (fun _ => Nat.le_of_ble_eq_true rfl)
    (by intro s y h; unfold f23.inR at h; split at h <;> simp at h <;> subst h <;> rfl) (fun _ _ _ => rfl) (f23.eq K)
end Go.Proofs

namespace Go.Proofs
open Go.VM
theorem spl_end (l : List Int) (i : Nat) (x : Int) (h : l.length = i) : spl l (0 + i) 1 [x] = l ++ [x] := by
  rw [spl, Nat.zero_add, padT_self l h, padT_self [x] (n := 1) rfl, List.drop_of_length_le (by omega), List.append_nil]
theorem take_next {l : List Int} {i : Nat} (h : i < l.length) : l.take i ++ [l.getD i 0] = l.take (i + 1) := by
  rw [List.take_add_one, List.getElem?_eq_getElem h]; simp [List.getD_eq_getElem?_getD, h]
theorem f17.spec (K n : Nat) (l : List Int) (hl : l.length = n) (hn : n ≤ 1000000000) (hK : n < K) : f17.F K (n, n, l) = some (n, n + 1, n, l, n + 1, l ++ [77]) := by
  have := iter_for (stp := f17.s0 K) (N := n) (fun i => (n, i, n + 1, (i : Int), n, l, n + 1, l.take i)) (y := some (n, n, n + 1, n, l, n + 1, l)) ?_ ?_ hK
  · simp only [f17.F, f17.T]
    rw [wrap_i _ (by omega) (by omega), show ((n : Nat) : Int) + 1 = ((n + 1 : Nat) : Int) by omega, Int.toNat_natCast]
    have hl' : lenOK 0 ((n + 1 : Nat) : Int) 1 = true := by
      simp only [lenOK, Int.toNat_natCast]
      rw [decide_eq_true (show (0 : Int) ≤ 0 ∧ (0 : Int) ≤ ((n + 1 : Nat) : Int) by omega), fitB_true (by omega), fitB_true (by simp; omega)]; rfl
    rw [hl', cond_t, show iter (f17.s0 K) K (n, 0, n + 1, 0, n, l, n + 1, []) = _ from this, bind_s]
    simp only []
    rw [Nat.zero_add, ble_true (Nat.le_refl (n + 1)), show Nat.blt 0 (n + 1) = true from by simp [Nat.blt_eq], Bool.and_self, Bool.and_self, cond_t, decide_eq_true (show (0 : Int) ≤ ((n : Nat) : Int) ∧ ((n : Nat) : Int) ≤ ((n + 1 : Nat) : Int) by omega), Bool.and_self, cond_t, Int.toNat_natCast]
    have := spl_end l n 77 hl
    rw [Nat.zero_add] at this
    rw [this]
  · intro i hi rec
    simp only [f17.s0, f17.s0t]
    rw [decide_eq_true (show (i : Int) < ((n : Nat) : Int) by omega), cond_t, decide_eq_true (show (0 : Int) ≤ (i : Int) ∧ (i : Int) < ((n : Nat) : Int) by omega), cond_t, Int.toNat_natCast, Nat.zero_add, show Nat.blt i n = true from by simp [Nat.blt_eq]; omega, cond_t,
      ble_true (show i + 1 ≤ n + 1 by omega), show Nat.blt 0 (n + 1) = true from by simp [Nat.blt_eq], Bool.and_self, Bool.and_self, cond_t, wrap_i _ (by omega) (by omega)]
    have h1 := spl_end (l.take i) i (List.getD l i 0) (by rw [List.length_take]; omega)
    rw [Nat.zero_add, take_next (by omega)] at h1
    rw [h1]
    rfl
  · intro rec
    simp only [f17.s0, f17.s0t]
    rw [decide_eq_false (show ¬ ((n : Nat) : Int) < ((n : Nat) : Int) by omega), cond_f, List.take_of_length_le (by omega)]
theorem or_xor (t x y : Int) (ht : 0 ≤ t ∧ t < 256) (hx : 0 ≤ x ∧ x < 256) (hy : 0 ≤ y ∧ y < 256) :
    (0 ≤ bits .or .u8 t (bits .xor .u8 x y) ∧ bits .or .u8 t (bits .xor .u8 x y) < 256) ∧ (bits .or .u8 t (bits .xor .u8 x y) = 0 ↔ t = 0 ∧ x = y) := by
  have key : ∀ z : Int, 0 ≤ z ∧ z < 256 → ∃ b : BitVec 8, z = ((b.toNat : Nat) : Int) ∧ BitVec.ofInt 8 z = b := fun z hz => by
    refine ⟨BitVec.ofInt 8 z, ?_, rfl⟩
    rw [BitVec.toNat_ofInt]
    omega
  obtain ⟨bt, rfl, et⟩ := key t ht
  obtain ⟨bx, rfl, ex⟩ := key x hx
  obtain ⟨by', rfl, ey⟩ := key y hy
  have wr : ∀ b : BitVec 8, IntKind.wrap .u8 ((b.toNat : Nat) : Int) = ((b.toNat : Nat) : Int) := fun b => by
    have := b.isLt
    rw [wrap8]
    omega
  have h1 : bits .xor .u8 ((bx.toNat : Nat) : Int) ((by'.toNat : Nat) : Int) = (((bx ^^^ by').toNat : Nat) : Int) := by
    show IntKind.wrap .u8 _ = _
    rw [show BitVec.ofInt (IntKind.bits .u8) ((bx.toNat : Nat) : Int) = bx from ex, show BitVec.ofInt (IntKind.bits .u8) ((by'.toNat : Nat) : Int) = by' from ey]
    exact wr _
  have e2 : BitVec.ofInt 8 (((bx ^^^ by').toNat : Nat) : Int) = bx ^^^ by' := by rw [BitVec.ofInt_natCast]; simp
  have h2 : bits .or .u8 ((bt.toNat : Nat) : Int) (((bx ^^^ by').toNat : Nat) : Int) = (((bt ||| (bx ^^^ by')).toNat : Nat) : Int) := by
    show IntKind.wrap .u8 _ = _
    rw [show BitVec.ofInt (IntKind.bits .u8) ((bt.toNat : Nat) : Int) = bt from et, show BitVec.ofInt (IntKind.bits .u8) (((bx ^^^ by').toNat : Nat) : Int) = bx ^^^ by' from e2]
    exact wr _
  rw [h1, h2]
  refine ⟨⟨by omega, by have := (bt ||| (bx ^^^ by')).isLt; omega⟩, ?_⟩
  have z : ∀ b : BitVec 8, (((b.toNat : Nat) : Int) = 0) ↔ b = 0#8 := fun b => ⟨fun h => BitVec.eq_of_toNat_eq (by simpa using h), fun h => by rw [h]; rfl⟩
  rw [z, z, BitVec.or_eq_zero_iff, BitVec.xor_eq_zero_iff]
  exact ⟨fun ⟨a, b⟩ => ⟨a, by rw [b]⟩, fun ⟨a, b⟩ => ⟨a, BitVec.eq_of_toNat_eq (by exact_mod_cast b)⟩⟩
def Sh.unlike (l m : List Int) : Nat → Int
  | 0 => 0
  | i + 1 => bits .or .u8 (Sh.unlike l m i) (bits .xor .u8 (l.getD i 0) (m.getD i 0))
theorem unlike_spec (l m : List Int) (hl : octets l) (hm : octets m) : ∀ i, i ≤ l.length → i ≤ m.length → (0 ≤ Sh.unlike l m i ∧ Sh.unlike l m i < 256) ∧ (Sh.unlike l m i = 0 ↔ l.take i = m.take i) := by
  intro i
  induction i with
  | zero => intro _ _; exact ⟨⟨by simp [Sh.unlike], by simp [Sh.unlike]⟩, by simp [Sh.unlike]⟩
  | succ i ih =>
    intro h1 h2
    obtain ⟨r, e⟩ := ih (by omega) (by omega)
    have gx : l.getD i 0 = l[i] := by simp [List.getD_eq_getElem?_getD, show i < l.length by omega]
    have gy : m.getD i 0 = m[i] := by simp [List.getD_eq_getElem?_getD, show i < m.length by omega]
    obtain ⟨r', e'⟩ := or_xor _ (l.getD i 0) (m.getD i 0) r (by rw [gx]; exact hl _ (List.getElem_mem _)) (by rw [gy]; exact hm _ (List.getElem_mem _))
    refine ⟨r', ?_⟩
    rw [show Sh.unlike l m (i + 1) = 0 ↔ _ from e', e, ← take_next (show i < l.length by omega), ← take_next (show i < m.length by omega)]
    constructor
    · rintro ⟨a, b⟩; rw [a, b]
    · intro h
      obtain ⟨a, b⟩ := List.append_inj h (by simp; omega)
      simp only [List.cons.injEq, and_true] at b
      exact ⟨a, b⟩
theorem f23.spec (K a b : Nat) (l m : List Int) (hl : l.length = a) (hm : m.length = b) (lo : octets l) (mo : octets m) (ha : a ≤ 1000000000) (hK : a < K) : f23.F K (a, b, a, l, b, m) = some (decide (l = m), a, l, b, m) := by
  by_cases hab : a = b
  · subst hab
    have := iter_for (stp := f23.s0 K) (N := a) (fun i => (a, a, Sh.unlike l m i, ((a : Nat) : Int), (i : Int), a, l, a, m)) (y := some (Sh.unlike l m a, a, l, a, m)) ?_ ?_ hK
    · simp only [f23.F, f23.T]
      rw [show (((a : Nat) : Int) != ((a : Nat) : Int)) = false from by simp, cond_f, show iter (f23.s0 K) K (a, a, 0, ((a : Nat) : Int), 0, a, l, a, m) = _ from this, bind_s]
      obtain ⟨_, e⟩ := unlike_spec l m lo mo a (by omega) (by omega)
      rw [List.take_of_length_le (by omega), List.take_of_length_le (by omega)] at e
      have : (Sh.unlike l m a == 0) = decide (l = m) := by
        rw [Bool.eq_iff_iff]
        simp [e]
      rw [this]
    · intro i hi rec
      simp only [f23.s0, f23.s0t]
      rw [decide_eq_true (show (i : Int) < ((a : Nat) : Int) by omega), cond_t, decide_eq_true (show (0 : Int) ≤ (i : Int) ∧ (i : Int) < ((a : Nat) : Int) by omega), cond_t, Int.toNat_natCast, Nat.zero_add, show Nat.blt i a = true from by simp [Nat.blt_eq]; omega, cond_t, cond_t, cond_t, wrap_i _ (by omega) (by omega)]
      rfl
    · intro rec
      simp only [f23.s0, f23.s0t]
      rw [decide_eq_false (show ¬ ((a : Nat) : Int) < ((a : Nat) : Int) by omega), cond_f]
  · simp only [f23.F, f23.T]
    rw [show (((a : Nat) : Int) != ((b : Nat) : Int)) = true from by simp; omega, cond_t, decide_eq_false (fun e => hab (by rw [← hl, ← hm, e]))]
end Go.Proofs

namespace Go.Proofs
open Go.VM
def Rf.round (x : Int) (n : Nat) : Int := bits .or .u32 (shiftI .shr .u32 x (n : Int)) (shiftI .shl .u32 x ((32 - n : Nat) : Int))
def Rf.s0 (x : Int) : Int := bits .xor .u32 (bits .xor .u32 (Rf.round x 7) (Rf.round x 18)) (Int.fdiv x (2 ^ 3))
def Rf.s1 (x : Int) : Int := bits .xor .u32 (bits .xor .u32 (Rf.round x 17) (Rf.round x 19)) (Int.fdiv x (2 ^ 10))
def Rf.w (b : List Int) : Nat → Int
  | t => if t < 16 then IntKind.wrap .u32 ((tv (subI b (4 * t) 4) : Nat) : Int)
    else if h : 16 ≤ t then IntKind.wrap .u32 ((IntKind.wrap .u32 ((IntKind.wrap .u32 (Rf.w b (t - 16) + Rf.w b (t - 7))) + Rf.s0 (Rf.w b (t - 15)))) + Rf.s1 (Rf.w b (t - 2)))
    else 0
termination_by t => t
def Rf.step (b : List Int) (t : Nat) (l : List Int) : List Int :=
  let a := List.getD l 0 0
  let e := List.getD l 4 0
  let t1 := IntKind.wrap .u32 ((IntKind.wrap .u32 ((IntKind.wrap .u32 ((IntKind.wrap .u32 ((List.getD l 7 0) + (bits .xor .u32 (bits .xor .u32 (Rf.round e 6) (Rf.round e 11)) (Rf.round e 25)))) + (bits .xor .u32 (bits .and .u32 e (List.getD l 5 0)) (bits .and .u32 (bits .xor .u32 4294967295 e) (List.getD l 6 0))))) + (List.getD Sh.consts t 0))) + Rf.w b t)
  [IntKind.wrap .u32 (t1 + (IntKind.wrap .u32 ((bits .xor .u32 (bits .xor .u32 (Rf.round a 2) (Rf.round a 13)) (Rf.round a 22)) + (bits .or .u32 (bits .or .u32 (bits .and .u32 a (List.getD l 1 0)) (bits .and .u32 a (List.getD l 2 0))) (bits .and .u32 (List.getD l 1 0) (List.getD l 2 0)))))), a, List.getD l 1 0, List.getD l 2 0, IntKind.wrap .u32 (List.getD l 3 0 + t1), e, List.getD l 5 0, List.getD l 6 0]
def Rf.rounds (s b : List Int) : Nat → List Int
  | 0 => s
  | t + 1 => Rf.step b t (Rf.rounds s b t)
end Go.Proofs

namespace Go.Proofs
open Go.VM
end Go.Proofs

namespace Go.Proofs
open Go.VM
end Go.Proofs

namespace Go.Proofs
open Go.VM
end Go.Proofs

namespace Go.Proofs
open Go.VM
def Rf.tab (b : List Int) (i : Nat) : List Int := (List.range 64).map fun k => if k < i then Rf.w b k else 0
end Go.Proofs

namespace Go.Proofs
open Go.VM
end Go.Proofs

namespace Go.Proofs
open Go.VM
end Go.Proofs

namespace Go.Proofs
open Go.VM
end Go.Proofs

namespace Go.Proofs
open Go.VM
end Go.Proofs

namespace Go.Proofs
open Go.VM
abbrev f45.Ty0 := ByteArray × Int × List Int
noncomputable def f45.c : Code := bodyOf Try.f45
def f45.k0 : ByteArray := ByteArray.mk #[48, 49, 50, 51, 52, 53, 54, 55, 56, 57, 97, 98, 99, 100, 101, 102]
def f45.s0t (_K : Nat) (rec : f45.Ty0 → Option (ByteArray)) (t3 : ByteArray) (t4 : Int) (b0 : List Int) : Option (ByteArray) :=
  bif (decide (t4 < 32)) then
    bif decide (0 ≤ t4 ∧ t4 < 32) then
      let v4 := Int.fdiv (List.getD b0 (Int.toNat t4) 0) (2 ^ 4)
      bif decide (0 ≤ t4 ∧ t4 < 32) then
        let v8 := IntKind.wrap .u8 ((Int.fdiv (List.getD b0 (Int.toNat t4) 0) (2 ^ 4)) + 1)
        bif (decide (0 ≤ v8 ∧ v8 ≤ ((ByteArray.size f45.k0 : Nat) : Int)) && (decide (0 ≤ v4 ∧ v4 ≤ ((Int.toNat v8 : Nat) : Int)))) then
          bif fitB (ByteArray.size t3 + ByteArray.size (ByteArray.extract f45.k0 (Int.toNat v4) (Int.toNat v8))) then
            bif decide (0 ≤ t4 ∧ t4 < 32) then
              let v11 := bits .and .u8 (List.getD b0 (Int.toNat t4) 0) 15
              bif decide (0 ≤ t4 ∧ t4 < 32) then
                let v15 := IntKind.wrap .u8 ((bits .and .u8 (List.getD b0 (Int.toNat t4) 0) 15) + 1)
                bif (decide (0 ≤ v15 ∧ v15 ≤ ((ByteArray.size f45.k0 : Nat) : Int)) && (decide (0 ≤ v11 ∧ v11 ≤ ((Int.toNat v15 : Nat) : Int)))) then
                  bif fitB (ByteArray.size (t3 ++ (ByteArray.extract f45.k0 (Int.toNat v4) (Int.toNat v8))) + ByteArray.size (ByteArray.extract f45.k0 (Int.toNat v11) (Int.toNat v15))) then
                    rec (((t3 ++ (ByteArray.extract f45.k0 (Int.toNat v4) (Int.toNat v8))) ++ (ByteArray.extract f45.k0 (Int.toNat v11) (Int.toNat v15))), (IntKind.wrap .i64 (t4 + 1)), b0)
                  else
                    none
                else
                  none
              else
                none
            else
              none
          else
            none
        else
          none
      else
        none
    else
      none
  else
    some t3
def f45.s0 (K : Nat) (rec : f45.Ty0 → Option (ByteArray)) (x : f45.Ty0) : Option (ByteArray) := f45.s0t K rec x.1 x.2.1 x.2.2
noncomputable def f45.s0.b : Code := (findLoop 0 f45.c).getD .skip
def f45.s0.h : Hint := { lv := [1, 3, 4] }
def f45.s0.ho : Hint := { lv := [3] }
def f45.s0.shp (x : f45.Ty0) : VS := ⟨[(1, .ptr 0 0), (3, .str x.1), (4, .int .i64 x.2.1)], [(0, ([.ints .u8 32 x.2.2], 35, .norm))], 1⟩
def f45.s0.inX : VS → Option (f45.Ty0)
  | ⟨[(1, .ptr 0 0), (3, .str t3), (4, .int .i64 t4)], [(0, ([.ints .u8 32 b0], 35, .norm))], 1⟩ => some (t3, t4, b0)
  | _ => none
def f45.s0.o0 (y : ByteArray) : VS := ⟨[(3, .str y)], [], 0⟩
def f45.s0.des : ∀ α : Type, ByteArray → (Ex → VS → Option α) → Option α := (des1 (.exit 0) f45.s0.o0)
def f45.s0.out : ByteArray → Ex × VS := (fun y => (.exit 0, f45.s0.o0 y))
theorem f45.s0.desOK : ∀ α y (k : Ex → VS → Option α), f45.s0.des α y k = k (f45.s0.out y).1 (f45.s0.out y).2 := (fun _ _ _ => rfl)
def f45.s0.inY : Ex → VS → Option (ByteArray)
  | .exit 0, ⟨[(3, .str t3)], [], 0⟩ => some t3
  | _, _ => none
def f45.lp (K : Nat) : Nat → Option (Hint × Summ) := tabLp [(0, f45.s0.h, summOf (iter (f45.s0 K) K) f45.s0.inX f45.s0.des)]
noncomputable def f45.tab (_K : Nat) : List (Nat × Entry) := []
theorem f45.tabOK (K : Nat) : SpecOK Try.prog (tabSp (f45.tab K)) := tab_ok ( tab_nil)
theorem f45.s0.eq (K : Nat) (rec : f45.Ty0 → Option (ByteArray)) (x : f45.Ty0) : f45.s0 K rec x = roundL (getA tys) (tabSp (f45.tab K)) 33 0 (f45.lp K) 400 f45.s0.b f45.s0.h f45.s0.ho f45.s0.shp f45.s0.inX f45.s0.inY rec x := by kernel_rfl
theorem f45.s0.lok (K : Nat) : LoopsOK Try.prog 33 0 (f45.lp K) f45.s0.b := loops_ok (by
  have h : loopsIn (f45.lp K) f45.s0.b = [] := by kernel_rfl
  rw [h]; simp)
theorem f45.s0.ok (K : Nat) : SummOK Try.prog 33 0 (summOf (iter (f45.s0 K) K) f45.s0.inX f45.s0.des) f45.s0.b :=
  loop_ok mix tys_ok (f45.tabOK K) (h := f45.s0.h) (ho := f45.s0.ho) (shp := f45.s0.shp) (inX := f45.s0.inX) (des := f45.s0.des) (out := f45.s0.out) (inY := f45.s0.inY) (fuel := 400)
    (by intro st x h; unfold f45.s0.inX at h; split at h <;> simp at h; subst h; rfl)
    (by intro e st y h; unfold f45.s0.inY at h; split at h <;> simp at h <;> subst h <;> rfl)
    f45.s0.desOK (f45.s0.lok K) (f45.s0 K) (f45.s0.eq K) K
theorem f45.loops (K : Nat) : LoopsOK Try.prog 33 0 (f45.lp K) f45.c := loops_ok (by
  have h : loopsIn (f45.lp K) f45.c = [(0, f45.s0.b)] := by kernel_rfl
  rw [h]
  intro p hp
  simp only [List.mem_cons, List.not_mem_nil, or_false] at hp
  rcases hp with rfl
  · exact ⟨_, rfl, (f45.s0.ok K)⟩)
def f45.T (K : Nat) (a0 : List Int) : Option (ByteArray) :=
  (iter (f45.s0 K) K (ByteArray.empty, 0, a0)).bind fun y17 =>
  some y17
def f45.F (K : Nat) (x : List Int) : Option (ByteArray) := f45.T K x
def f45.av (x : List Int) : List VV := [.agg [.ints .u8 32 x]]
def f45.bl (_x : List Int) : List (Nat × Blk) := []
def f45.inA : VS → Option (List Int)
  | ⟨[(0, .agg [.ints .u8 32 a0])], [], 0⟩ => some a0
  | _ => none
def f45.o0 (y : ByteArray) : VS := ⟨[(0, .str y)], [], 0⟩
def f45.des : ∀ α : Type, ByteArray → (VS → Option α) → Option α := (dv1 f45.o0)
def f45.out : ByteArray → VS := f45.o0
def f45.inR : VS → Option (ByteArray)
  | ⟨[(0, .str y)], [], 0⟩ => some y
  | _ => none
noncomputable def f45.E (K : Nat) : Entry := genE 0 f45.inA (f45.F K) f45.des
theorem f45.eq (K : Nat) (x : List Int) : f45.F K x = xrun (getA tys) (tabSp (f45.tab K)) Try.f45.ntmps 0 (f45.lp K) 400 f45.c ⟨initL 0 (f45.av x), f45.bl x, 0⟩ (contF (getA tys) 0 Try.f45.results.toList f45.inR) := by kernel_rfl
theorem f45.ok (K : Nat) : EntryOK Try.prog 45 (f45.E K) :=
  gen_ok mix tys_ok (f45.tabOK K) Try.func45 (by kernel_rfl : Try.f45.body = some f45.c) (by kernel_rfl) (f45.loops K) (av := f45.av) (bl := f45.bl) (out := f45.out) (fuel := 400)
    (by intro s x h; unfold f45.inA at h; split at h <;> simp at h; subst h; rfl) (fun _ => Nat.le_of_ble_eq_true rfl)
    (by intro s y h; unfold f45.inR at h; split at h <;> simp at h <;> subst h <;> rfl) (fun _ _ _ => rfl) (f45.eq K)
end Go.Proofs

namespace Go.Proofs
open Go.VM
def f21.k0 : ByteArray := ByteArray.mk #[53, 98, 100, 99, 99, 49, 52, 54, 98, 102, 54, 48, 55, 53, 52, 101, 54, 97, 48, 52, 50, 52, 50, 54, 48, 56, 57, 53, 55, 53, 99, 55, 53, 97, 48, 48, 51, 102, 48, 56, 57, 100, 50, 55, 51, 57, 56, 51, 57, 100, 101, 99, 53, 56, 98, 57, 54, 52, 101, 99, 51, 56, 52, 51]
def f21.T (K : Nat)  : Option (Bool) :=
  (f22.F K (4, 4, [74, 101, 102, 101], 16, 12, 16, [119, 104, 97, 116, 32, 100, 111, 32, 121, 97, 32, 119, 97, 110, 116, 32], 12, [102, 111, 114, 32, 110, 111, 116, 104, 105, 110, 103, 63])).bind fun y1 =>
  (f45.F K y1.1).bind fun y2 =>
  bif (strEq y2 f21.k0) then
    (f23.F K (2, 2, 2, [97, 98], 2, [97, 98])).bind fun y4 =>
    bif y4.1 then
      (f23.F K (2, 1, 2, [97, 98], 1, [97])).bind fun y5 =>
      some (!y5.1)
    else
      some false
  else
    some false
def f21.F (K : Nat) (_x : Unit) : Option (Bool) := f21.T K
def f21.av (_x : Unit) : List VV := []
def f21.bl (_x : Unit) : List (Nat × Blk) := []
def f21.inA : VS → Option (Unit)
  | ⟨[], [], 0⟩ => some ()
  | _ => none
def f21.o0 (y : Bool) : VS := ⟨[(0, .bool y)], [], 0⟩
def f21.inR : VS → Option (Bool)
  | ⟨[(0, .bool y)], [], 0⟩ => some y
  | _ => none
noncomputable def f21.E (K : Nat) : Entry := genE 0 f21.inA (f21.F K) (dv1 f21.o0)
theorem f21.ok (K : Nat) : EntryOK Try.prog 21 (f21.E K) := gen_ok mix tys_ok (sp := tabSp [(22, (rowsE 1 .u8 (viewE [(0, .u8)] (f22.E K)))), (45, (f45.E K)), (23, (viewE [(0, .u8), (1, .u8)] (f23.E K)))]) (tab_ok ((tab_cons (rows_ok (view_ok (f22.ok K))) (tab_cons (f45.ok K) (tab_cons (view_ok (f23.ok K)) tab_nil))))) Try.func21 (c := bodyOf Try.f21) (by kernel_rfl) (by kernel_rfl) (loops_none (lp := lpNone) (by kernel_rfl)) (av := f21.av) (bl := f21.bl) (inR := f21.inR) (out := f21.o0) (fuel := 400)
  (by intro s x h; unfold f21.inA at h; split at h <;> simp at h; rfl) (fun _ => Nat.le_of_ble_eq_true rfl)
  (by intro s y h; unfold f21.inR at h; split at h <;> simp at h <;> subst h <;> rfl) (fun _ _ _ => rfl) (fun _ => by kernel_rfl)
end Go.Proofs

namespace Go.Proofs
open Go.VM
end Go.Proofs

namespace Go.Proofs
open Go.VM
abbrev f6.Ty0 := Nat × Int × Int × Nat × List Int
abbrev f6.Ty1 := Bool × Nat × List Int
def f6.T (K : Nat) (a0 : Nat) (a1 : Int) (a2 : Int) (m0_0 : Nat) (m0_1 : List Int) : Option (f6.Ty1) :=
  bif (decide (((a0 : Nat) : Int) > 10000)) then
    (f21.F K ()).bind fun y3 =>
    some (y3, m0_0, m0_1)
  else
    bif ((Nat.ble (0 + a0) m0_0 && true) && true) then
      (f17.F K (a0, a0, (subI m0_1 0 a0))).bind fun y4 =>
      bif ((Nat.ble (0 + a0) m0_0 && true) && ((Nat.ble (0 + y4.1) y4.2.2.2.2.1 && (Nat.ble y4.1 y4.2.1)) && true)) then
        (f23.F K (a0, y4.1, a0, (subI m0_1 0 a0), y4.1, (subI y4.2.2.2.2.2 0 y4.1))).bind fun y5 =>
        bif !y5.1 then
          some (false, m0_0, m0_1)
        else
          bif ((Nat.ble (0 + a0) m0_0 && true) && true) then
            (f17.F K (a0, a0, (subI m0_1 0 a0))).bind fun y6 =>
            bif ((Nat.ble (y6.1 + 1) y6.2.1 && (Nat.ble ((0 + y6.1) + 1) y6.2.2.2.2.1)) && (Nat.blt 0 y6.2.2.2.2.1)) then
              bif ((Nat.ble (0 + a0) m0_0 && true) && ((Nat.ble (0 + (y6.1 + 1)) y6.2.2.2.2.1 && (Nat.ble (y6.1 + 1) y6.2.1)) && true)) then
                (f23.F K (a0, (y6.1 + 1), a0, (subI m0_1 0 a0), (y6.1 + 1), (subI (spl y6.2.2.2.2.2 (0 + y6.1) 1 [0]) 0 (y6.1 + 1)))).bind fun y9 =>
                bif y9.1 then
                  some (false, m0_0, m0_1)
                else
                  bif (((a0 : Nat) : Int) == 0) then
                    (f21.F K ()).bind fun y11 =>
                    some (y11, m0_0, m0_1)
                  else
                    let v13 := ((y4.1 : Nat) : Int)
                    bif decide (v13 ≠ 0) then
                      let v14 := Int.tmod (IntKind.wrap .i64 a1) v13
                      bif decide (0 ≤ v14 ∧ v14 < ((y4.1 : Nat) : Int)) then
                        let v15 := 0 + (Int.toNat v14)
                        bif Nat.blt v15 y4.2.2.2.2.1 then
                          bif decide (0 ≤ v14 ∧ v14 < ((y4.1 : Nat) : Int)) then
                            let v18 := 0 + (Int.toNat v14)
                            bif Nat.blt v18 y4.2.2.2.2.1 then
                              let v19 := y4.2.2.2.2.1
                              let v20 := setD y4.2.2.2.2.2 v18 (bits .xor .u8 (List.getD y4.2.2.2.2.2 v15 0) a2)
                              bif ((Nat.ble (0 + a0) m0_0 && true) && ((Nat.ble (0 + y4.1) v19 && (Nat.ble y4.1 y4.2.1)) && true)) then
                                (f23.F K (a0, y4.1, a0, (subI m0_1 0 a0), y4.1, (subI v20 0 y4.1))).bind fun y21 =>
                                bif (y21.1 == (a2 == 0)) then
                                  bif ((Nat.ble (0 + y4.1) v19 && (Nat.ble y4.1 y4.2.1)) && ((Nat.ble (0 + a0) m0_0 && true) && true)) then
                                    (f23.F K (y4.1, a0, y4.1, (subI v20 0 y4.1), a0, (subI m0_1 0 a0))).bind fun y23 =>
                                    bif (y23.1 == (a2 == 0)) then
                                      bif decide ((0 : Int) ≤ 1 ∧ 1 ≤ ((y4.1 : Nat) : Int)) then
                                        let v25 := bif Nat.beq y4.2.1 1 then 0 else 1
                                        bif ((Nat.ble (0 + a0) m0_0 && true) && ((Nat.ble (v25 + (y4.1 - 1)) v19 && (Nat.ble (y4.1 - 1) (y4.2.1 - 1))) && true)) then
                                          (f23.F K (a0, (y4.1 - 1), a0, (subI m0_1 0 a0), (y4.1 - 1), (subI v20 v25 (y4.1 - 1)))).bind fun y26 =>
                                          bif !y26.1 then
                                            (f21.F K ()).bind fun y27 =>
                                            some (y27, m0_0, m0_1)
                                          else
                                            some (false, m0_0, m0_1)
                                        else
                                          none
                                      else
                                        none
                                    else
                                      some (false, m0_0, m0_1)
                                  else
                                    none
                                else
                                  some (false, m0_0, m0_1)
                              else
                                none
                            else
                              none
                          else
                            none
                        else
                          none
                      else
                        none
                    else
                      none
              else
                none
            else
              none
          else
            none
      else
        none
    else
      none
def f6.F (K : Nat) (x : f6.Ty0) : Option (f6.Ty1) := f6.T K x.1 x.2.1 x.2.2.1 x.2.2.2.1 x.2.2.2.2
def f6.av (x : f6.Ty0) : List VV := [.vw true 0 0 x.1 1, .int .u16 x.2.1, .int .u8 x.2.2.1]
def f6.bl (x : f6.Ty0) : List (Nat × Blk) := [(0, ([.ints .u8 x.2.2.2.1 x.2.2.2.2], 0, .ro))]
def f6.inA : VS → Option (f6.Ty0)
  | ⟨[(0, .vw true 0 0 a0 1), (1, .int .u16 a1), (2, .int .u8 a2)], [(0, ([.ints .u8 m0_0 m0_1], 0, .ro))], 2⟩ => some (a0, a1, a2, m0_0, m0_1)
  | _ => none
def f6.o0 (y : f6.Ty1) : VS := ⟨[(0, .bool y.1)], [(0, ([.ints .u8 y.2.1 y.2.2], 0, .ro))], 2⟩
def f6.inR : VS → Option (f6.Ty1)
  | ⟨[(0, .bool y)], [(0, ([.ints .u8 z0_0 z0_1], 0, .ro))], 2⟩ => some (y, z0_0, z0_1)
  | _ => none
noncomputable def f6.E (K : Nat) : Entry := genE 2 f6.inA (f6.F K) (dv1 f6.o0)
theorem f6.ok (K : Nat) : EntryOK Try.prog 6 (f6.E K) := gen_ok mix tys_ok (sp := tabSp [(21, (f21.E K)), (17, (viewE [(0, .u8)] (f17.E K))), (23, (viewE [(0, .u8), (1, .u8)] (f23.E K)))]) (tab_ok ((tab_cons (f21.ok K) (tab_cons (view_ok (f17.ok K)) (tab_cons (view_ok (f23.ok K)) tab_nil))))) Try.func6 (c := bodyOf Try.f6) (by kernel_rfl) (by kernel_rfl) (loops_none (lp := lpNone) (by kernel_rfl)) (av := f6.av) (bl := f6.bl) (inR := f6.inR) (out := f6.o0) (fuel := 400)
  (by intro s x h; unfold f6.inA at h; split at h <;> simp at h; subst h; rfl) (fun _ => Nat.le_of_ble_eq_true rfl)
  (by intro s y h; unfold f6.inR at h; split at h <;> simp at h <;> subst h <;> rfl) (fun _ _ _ => rfl) (fun _ => by kernel_rfl)
end Go.Proofs

namespace Go.Proofs
open Go.VM
theorem subI_front (l m : List Int) {n : Nat} (h : l.length = n) : subI (l ++ m) 0 n = l := by
  refine list_getD (by simp [subI, h]) fun i hi => ?_
  have hi' : i < n := by simpa [subI] using hi
  simp only [subI, List.getD_eq_getElem?_getD, Nat.zero_add]
  rw [List.getElem?_map, List.getElem?_range hi']
  simp [List.getD_eq_getElem?_getD, List.getElem?_append_left (show i < l.length by omega)]
set_option maxRecDepth 1000000 in
theorem f21.holds : f21.F 100000 () = some true := by decide +kernel
end Go.Proofs

namespace Go.Proofs
open Go.VM
theorem xor_same (x y : Int) (hx : 0 ≤ x ∧ x < 256) (hy : 0 ≤ y ∧ y < 256) : bits .xor .u8 x y = x ↔ y = 0 := by
  have key : ∀ z : Int, 0 ≤ z ∧ z < 256 → ∃ b : BitVec 8, z = ((b.toNat : Nat) : Int) ∧ BitVec.ofInt 8 z = b := fun z hz => by
    refine ⟨BitVec.ofInt 8 z, ?_, rfl⟩
    rw [BitVec.toNat_ofInt]
    omega
  obtain ⟨bx, rfl, ex⟩ := key x hx
  obtain ⟨by', rfl, ey⟩ := key y hy
  have h1 : bits .xor .u8 ((bx.toNat : Nat) : Int) ((by'.toNat : Nat) : Int) = (((bx ^^^ by').toNat : Nat) : Int) := by
    have wr : IntKind.wrap .u8 (((bx ^^^ by').toNat : Nat) : Int) = (((bx ^^^ by').toNat : Nat) : Int) := by
      have := (bx ^^^ by').isLt
      rw [wrap8]
      omega
    show IntKind.wrap .u8 _ = _
    rw [show BitVec.ofInt (IntKind.bits .u8) ((bx.toNat : Nat) : Int) = bx from ex, show BitVec.ofInt (IntKind.bits .u8) ((by'.toNat : Nat) : Int) = by' from ey]
    exact wr
  rw [h1]
  constructor
  · intro h
    have h2 : bx ^^^ by' = bx := BitVec.eq_of_toNat_eq (by exact_mod_cast h)
    have h3 : bx ^^^ (bx ^^^ by') = bx ^^^ bx := by rw [h2]
    rw [← BitVec.xor_assoc, BitVec.xor_self, BitVec.zero_xor] at h3
    rw [h3]; rfl
  · intro h
    have h2 : by' = 0#8 := BitVec.eq_of_toNat_eq (by simpa using h)
    rw [h2, BitVec.xor_zero]
theorem setD_front (l m : List Int) {n : Nat} (h : l.length = n) (a : Nat) (v : Int) (ha : a < n) : setD (l ++ m) a v = l.set a v ++ m := by
  rw [setD_eq_set _ _ _ (by simp; omega), List.set_append, if_pos (by omega)]
theorem subI_last (l : List Int) {n : Nat} (h : l.length = n) : spl (l ++ [77]) n 1 [0] = l ++ [0] := by
  rw [spl, padT_self [0] (n := 1) rfl, List.drop_of_length_le (by simp; omega), List.append_nil]
  congr 1
  refine list_getD (by simp [padT, h]) fun i hi => ?_
  have hi' : i < n := by simpa [padT] using hi
  rw [getD_padT, if_pos hi']
  simp [List.getD_eq_getElem?_getD, List.getElem?_append_left (show i < l.length by omega)]
theorem f6.holds (l : List Int) (lo : octets l) (z : Int) (hz : 0 ≤ z ∧ z < 65536) (y : Int) (hy : 0 ≤ y ∧ y < 256) : f6.F 100000 (l.length, z, y, l.length, l) = some (true, l.length, l) := by
  generalize hl : l.length = n
  simp only [f6.F, f6.T]
  by_cases h1 : 10000 < n
  · rw [decide_eq_true (show ((n : Nat) : Int) > 10000 by omega), cond_t, f21.holds, bind_s]
  rw [decide_eq_false (show ¬ ((n : Nat) : Int) > 10000 by omega), cond_f, Nat.zero_add, ble_true (Nat.le_refl n), Bool.and_self, Bool.and_self, cond_t, subI_self _ hl, f17.spec 100000 n l hl (by omega) (by omega), bind_s]
  simp only []
  rw [Nat.zero_add, ble_true (show n ≤ n + 1 by omega), Bool.and_self, Bool.and_self, Bool.and_self, cond_t, subI_front l [77] hl, f23.spec 100000 n n l l hl hl lo lo (by omega) (by omega), bind_s, decide_eq_true (rfl : l = l)]
  simp only []
  rw [Bool.not_true, cond_f, cond_t, bind_s]
  simp only []
  have h77 : spl (l ++ [77]) n 1 [0] = l ++ [0] := subI_last l hl
  have hl0 : (l ++ [0]).length = n + 1 := by simp [hl]
  have lo0 : octets (l ++ [0]) := octets_append lo (by intro x hx; simp only [List.mem_singleton] at hx; omega)
  rw [show Nat.blt 0 (n + 1) = true from by simp [Nat.blt_eq], Nat.zero_add n, Nat.zero_add (n + 1), ble_true (Nat.le_refl (n + 1)), Bool.and_self, Bool.and_self, Bool.and_self, cond_t, cond_t, h77, subI_self _ hl0, f23.spec 100000 n (n + 1) l _ hl hl0 lo lo0 (by omega) (by omega), bind_s,
    decide_eq_false (fun e => by have := congrArg List.length e; simp at this), cond_f]
  by_cases h2 : n = 0
  · subst h2
    rw [show ((((0 : Nat) : Nat) : Int) == 0) = true from rfl, cond_t, f21.holds, bind_s]
  rw [show (((n : Nat) : Int) == 0) = false from by simp; omega, cond_f, decide_eq_true (show ((n : Nat) : Int) ≠ 0 by omega), cond_t]
  obtain ⟨c, rfl⟩ : ∃ c : Nat, z = (c : Int) := ⟨z.toNat, by omega⟩
  rw [wrap_i _ (by omega) (by omega), tmod_nat]
  generalize hb : c % n = b
  have hbn : b < n := by rw [← hb]; exact Nat.mod_lt _ (by omega)
  rw [decide_eq_true (show (0 : Int) ≤ (b : Int) ∧ (b : Int) < ((n : Nat) : Int) by omega), cond_t, Int.toNat_natCast, Nat.zero_add b, show Nat.blt b (n + 1) = true from by simp [Nat.blt_eq]; omega, cond_t, cond_t, cond_t]
  have hg : (l ++ [77]).getD b 0 = l[b] := by
    rw [List.getD_eq_getElem?_getD, List.getElem?_append_left (by omega), List.getElem?_eq_getElem (by omega)]; rfl
  have ob := lo l[b] (List.getElem_mem _)
  have ov := xor_octet l[b] y
  have hsame := xor_same l[b] y ob hy
  rw [hg, setD_front l [77] hl b _ hbn]
  generalize hv : bits .xor .u8 l[b] y = v at *
  have hx : (l.set b v).length = n := by simp [hl]
  have xo : octets (l.set b v) := fun x hx => (List.mem_or_eq_of_mem_set hx).elim (lo x) (fun e => by rw [e]; exact ov)
  have hiff : l = l.set b v ↔ y = 0 := by
    rw [← hsame]
    constructor
    · intro e
      have : (l.set b v)[b]'(by omega) = v := by simp
      rw [← this]
      congr 1
      exact e.symm
    · intro e
      rw [e]
      simp
  have hd1 : (decide (l = l.set b v) == (y == 0)) = true := by
    by_cases hy0 : y = 0
    · rw [decide_eq_true (hiff.2 hy0), hy0]; rfl
    · rw [decide_eq_false (fun e => hy0 (hiff.1 e))]; simp [hy0]
  have hd2 : (decide (l.set b v = l) == (y == 0)) = true := by
    rw [← hd1]; congr 1; exact decide_eq_decide.2 ⟨fun e => e.symm, fun e => e.symm⟩
  rw [cond_t, subI_front _ [77] hx, f23.spec 100000 n n l _ hl hx lo xo (by omega) (by omega), bind_s, hd1, cond_t, cond_t, f23.spec 100000 n n _ l hx hl xo lo (by omega) (by omega), bind_s, hd2, cond_t]
  rw [decide_eq_true (show (0 : Int) ≤ 1 ∧ (1 : Int) ≤ ((n : Nat) : Int) by omega), cond_t, show Nat.beq (n + 1) 1 = false from by rw [← Bool.not_eq_true, Nat.beq_eq]; omega, cond_f, show 1 + (n - 1) = n by omega, ble_true (show n ≤ n + 1 by omega), Nat.add_sub_cancel, ble_true (show n - 1 ≤ n by omega), Bool.and_self, Bool.and_self, Bool.and_self, cond_t]
  have so : octets (subI (l.set b v ++ [77]) 1 (n - 1)) := octets_sub (octets_append xo (by intro x hx; simp only [List.mem_singleton] at hx; omega)) 1 (n - 1)
  have sl : (subI (l.set b v ++ [77]) 1 (n - 1)).length = n - 1 := subI_length _ _ _
  rw [f23.spec 100000 n (n - 1) l _ hl sl lo so (by omega) (by omega), bind_s, decide_eq_false (fun e => by have := congrArg List.length e; rw [sl, hl] at this; omega)]
  simp only []
  rw [Bool.not_false, cond_t, f21.holds, bind_s]
end Go.Proofs
