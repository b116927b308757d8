/- Go functions: for each a Lean function with the same answers, and the proof that the call comes to them, with no condition. -/
import Derived.Test.YtjkelipglcnpmaaVmx
import Derived.Test.YtjkelipglcnpmaaProg
import Derived.KernelRfl
namespace Go.Proofs
open Go.VM
theorem mix : Try.prog.follows .mixedOrders = true := by kernel_rfl
noncomputable def bodyOf (f : Func) : Code := f.body.getD .skip
def ti3 : TI := ⟨1, (Go.TypeDesc.int Go.IntKind.i64), [.int .i64 0], 0, [], false, 0⟩
theorem ty3 : TyOK Try.prog 3 ti3 := ⟨by kernel_rfl, by kernel_rfl, rfl, rfl, rfl, rfl, trivial, trivial, fun h => absurd rfl h, fun h => by cases h⟩
def ti4 : TI := ⟨1, Go.TypeDesc.bool, [.bool false], 0, [], false, 0⟩
theorem ty4 : TyOK Try.prog 4 ti4 := ⟨by kernel_rfl, by kernel_rfl, rfl, rfl, rfl, rfl, trivial, trivial, fun h => absurd rfl h, fun h => by cases h⟩
def ti5 : TI := ⟨1, (Go.TypeDesc.int Go.IntKind.u8), [.int .u8 0], 0, [], false, 1⟩
theorem ty5 : TyOK Try.prog 5 ti5 := ⟨by kernel_rfl, by kernel_rfl, rfl, rfl, rfl, rfl, trivial, trivial, fun _ => by kernel_rfl, fun h => by cases h⟩
def ti9 : TI := ⟨1, Go.TypeDesc.string, [.str ByteArray.empty], 0, [], false, 0⟩
theorem ty9 : TyOK Try.prog 9 ti9 := ⟨by kernel_rfl, by kernel_rfl, rfl, rfl, rfl, rfl, trivial, trivial, fun h => absurd rfl h, fun h => by cases h⟩
def ti22 : TI := ⟨1, (Go.TypeDesc.int Go.IntKind.u64), [.int .u64 0], 0, [], false, 0⟩
theorem ty22 : TyOK Try.prog 22 ti22 := ⟨by kernel_rfl, by kernel_rfl, rfl, rfl, rfl, rfl, trivial, trivial, fun h => absurd rfl h, fun h => by cases h⟩
def ti24 : TI := ⟨4, .array 4 22, [.ints .u64 4 [0, 0, 0, 0]], 1, [], true, 0⟩
theorem ty24 : TyOK Try.prog 24 ti24 := ⟨by kernel_rfl, by kernel_rfl, rfl, rfl, rfl, rfl, by show _ = _; kernel_rfl, trivial, fun h => absurd rfl h, fun _ => eqs_arr (e := 22) (by kernel_rfl) (by kernel_rfl) ⟨.u64, by kernel_rfl⟩ (by kernel_rfl)⟩
def ti30 : TI := ⟨1, (Go.TypeDesc.int Go.IntKind.u64), [.int .u64 0], 0, [], false, 0⟩
theorem ty30 : TyOK Try.prog 30 ti30 := ⟨by kernel_rfl, by kernel_rfl, rfl, rfl, rfl, rfl, trivial, trivial, fun h => absurd rfl h, fun h => by cases h⟩
def ti47 : TI := ⟨1, (Go.TypeDesc.func #[24, 24] #[24] false), [.raw .nilFunc], 0, [], false, 0⟩
theorem ty47 : TyOK Try.prog 47 ti47 := ⟨by kernel_rfl, by kernel_rfl, rfl, rfl, rfl, rfl, trivial, trivial, fun h => absurd rfl h, fun h => by cases h⟩
def ti50 : TI := ⟨1, (Go.TypeDesc.int Go.IntKind.u32), [.int .u32 0], 0, [], false, 0⟩
theorem ty50 : TyOK Try.prog 50 ti50 := ⟨by kernel_rfl, by kernel_rfl, rfl, rfl, rfl, rfl, trivial, trivial, fun h => absurd rfl h, fun h => by cases h⟩
def ti53 : TI := ⟨1, (Go.TypeDesc.int Go.IntKind.u16), [.int .u16 0], 0, [], false, 0⟩
theorem ty53 : TyOK Try.prog 53 ti53 := ⟨by kernel_rfl, by kernel_rfl, rfl, rfl, rfl, rfl, trivial, trivial, fun h => absurd rfl h, fun h => by cases h⟩
def ti57 : TI := ⟨12, (Go.TypeDesc.struct #[{ name := "P", type := 24, offset := 0, embedded := false, tag := "", pkgPath := "", byteOffset := 0 }, { name := "Q", type := 24, offset := 4, embedded := false, tag := "", pkgPath := "", byteOffset := 32 }, { name := "G", type := 24, offset := 8, embedded := false, tag := "", pkgPath := "", byteOffset := 64 }]), [.ints .u64 4 [0, 0, 0, 0], .ints .u64 4 [0, 0, 0, 0], .ints .u64 4 [0, 0, 0, 0]], 0, [4, 4, 4], false, 0⟩
theorem ty57 : TyOK Try.prog 57 ti57 := ⟨by kernel_rfl, by kernel_rfl, rfl, rfl, rfl, rfl, trivial, by show _ = _; kernel_rfl, fun h => absurd rfl h, fun h => by cases h⟩
def ti64 : TI := ⟨24, (Go.TypeDesc.struct #[{ name := "G", type := 57, offset := 0, embedded := false, tag := "", pkgPath := "", byteOffset := 0 }, { name := "A", type := 24, offset := 12, embedded := false, tag := "", pkgPath := "", byteOffset := 96 }, { name := "B", type := 24, offset := 16, embedded := false, tag := "", pkgPath := "", byteOffset := 128 }, { name := "N", type := 24, offset := 20, embedded := false, tag := "", pkgPath := "", byteOffset := 160 }]), [.ints .u64 4 [0, 0, 0, 0], .ints .u64 4 [0, 0, 0, 0], .ints .u64 4 [0, 0, 0, 0], .ints .u64 4 [0, 0, 0, 0], .ints .u64 4 [0, 0, 0, 0], .ints .u64 4 [0, 0, 0, 0]], 0, [12, 4, 4, 4], false, 0⟩
theorem ty64 : TyOK Try.prog 64 ti64 := ⟨by kernel_rfl, by kernel_rfl, rfl, rfl, rfl, rfl, trivial, by show _ = _; kernel_rfl, fun h => absurd rfl h, fun h => by cases h⟩
def ti67 : TI := ⟨24, (Go.TypeDesc.struct #[{ name := "G", type := 57, offset := 0, embedded := false, tag := "", pkgPath := "", byteOffset := 0 }, { name := "A", type := 24, offset := 12, embedded := false, tag := "", pkgPath := "", byteOffset := 96 }, { name := "N", type := 24, offset := 16, embedded := false, tag := "", pkgPath := "", byteOffset := 128 }, { name := "M", type := 24, offset := 20, embedded := false, tag := "", pkgPath := "", byteOffset := 160 }]), [.ints .u64 4 [0, 0, 0, 0], .ints .u64 4 [0, 0, 0, 0], .ints .u64 4 [0, 0, 0, 0], .ints .u64 4 [0, 0, 0, 0], .ints .u64 4 [0, 0, 0, 0], .ints .u64 4 [0, 0, 0, 0]], 0, [12, 4, 4, 4], false, 0⟩
theorem ty67 : TyOK Try.prog 67 ti67 := ⟨by kernel_rfl, by kernel_rfl, rfl, rfl, rfl, rfl, trivial, by show _ = _; kernel_rfl, fun h => absurd rfl h, fun h => by cases h⟩
def ti70 : TI := ⟨32, .array 32 5, [.ints .u8 32 [0, 0, 0, 0, 0, 0, 0, 0, 0, 0, 0, 0, 0, 0, 0, 0, 0, 0, 0, 0, 0, 0, 0, 0, 0, 0, 0, 0, 0, 0, 0, 0]], 1, [], true, 0⟩
theorem ty70 : TyOK Try.prog 70 ti70 := ⟨by kernel_rfl, by kernel_rfl, rfl, rfl, rfl, rfl, by show _ = _; kernel_rfl, trivial, fun h => absurd rfl h, fun _ => eqs_arr (e := 5) (by kernel_rfl) (by kernel_rfl) ⟨.u8, by kernel_rfl⟩ (by kernel_rfl)⟩
def ti72 : TI := ⟨8, (Go.TypeDesc.struct #[{ name := "C", type := 24, offset := 0, embedded := false, tag := "", pkgPath := "", byteOffset := 0 }, { name := "S", type := 24, offset := 4, embedded := false, tag := "", pkgPath := "", byteOffset := 32 }]), [.ints .u64 4 [0, 0, 0, 0], .ints .u64 4 [0, 0, 0, 0]], 0, [4, 4], true, 0⟩
theorem ty72 : TyOK Try.prog 72 ti72 := ⟨by kernel_rfl, by kernel_rfl, rfl, rfl, rfl, rfl, trivial, by show _ = _; kernel_rfl, fun h => absurd rfl h, fun _ => eqs_struct (by kernel_rfl) (by kernel_rfl) (by kernel_rfl) (by kernel_rfl)⟩
def ti78 : TI := ⟨8, .array 8 22, [.ints .u64 8 [0, 0, 0, 0, 0, 0, 0, 0]], 1, [], true, 0⟩
theorem ty78 : TyOK Try.prog 78 ti78 := ⟨by kernel_rfl, by kernel_rfl, rfl, rfl, rfl, rfl, by show _ = _; kernel_rfl, trivial, fun h => absurd rfl h, fun _ => eqs_arr (e := 22) (by kernel_rfl) (by kernel_rfl) ⟨.u64, by kernel_rfl⟩ (by kernel_rfl)⟩
def ti80 : TI := ⟨16, .array 2 78, [.ints .u64 16 [0, 0, 0, 0, 0, 0, 0, 0, 0, 0, 0, 0, 0, 0, 0, 0]], 8, [], false, 0⟩
theorem ty80 : TyOK Try.prog 80 ti80 := ⟨by kernel_rfl, by kernel_rfl, rfl, rfl, rfl, rfl, by show _ = _; kernel_rfl, trivial, fun h => absurd rfl h, fun h => by cases h⟩
def ti83 : TI := ⟨2, .array 2 22, [.ints .u64 2 [0, 0]], 1, [], true, 0⟩
theorem ty83 : TyOK Try.prog 83 ti83 := ⟨by kernel_rfl, by kernel_rfl, rfl, rfl, rfl, rfl, by show _ = _; kernel_rfl, trivial, fun h => absurd rfl h, fun _ => eqs_arr (e := 22) (by kernel_rfl) (by kernel_rfl) ⟨.u64, by kernel_rfl⟩ (by kernel_rfl)⟩
def ti84 : TI := ⟨1, .slice 5, [.raw (.slice none 0 0)], 1, [], false, 24⟩
theorem ty84 : TyOK Try.prog 84 ti84 := ⟨by kernel_rfl, by kernel_rfl, rfl, rfl, rfl, rfl, by show _ = _; kernel_rfl, trivial, fun _ => by kernel_rfl, fun h => by cases h⟩
def ti89 : TI := ⟨1, .slice 24, [.raw (.slice none 0 0)], 4, [], false, 0⟩
theorem ty89 : TyOK Try.prog 89 ti89 := ⟨by kernel_rfl, by kernel_rfl, rfl, rfl, rfl, rfl, by show _ = _; kernel_rfl, trivial, fun h => absurd rfl h, fun h => by cases h⟩
def ti95 : TI := ⟨3, (Go.TypeDesc.struct #[{ name := "plus", type := 47, offset := 0, embedded := false, tag := "", pkgPath := "burrow/mods", byteOffset := 0 }, { name := "less", type := 47, offset := 1, embedded := false, tag := "", pkgPath := "burrow/mods", byteOffset := 8 }, { name := "times", type := 47, offset := 2, embedded := false, tag := "", pkgPath := "burrow/mods", byteOffset := 16 }]), [.raw .nilFunc, .raw .nilFunc, .raw .nilFunc], 0, [1, 1, 1], false, 0⟩
theorem ty95 : TyOK Try.prog 95 ti95 := ⟨by kernel_rfl, by kernel_rfl, rfl, rfl, rfl, rfl, trivial, by show _ = _; kernel_rfl, fun h => absurd rfl h, fun h => by cases h⟩
def ti99 : TI := ⟨8, (Go.TypeDesc.struct #[{ name := "n", type := 24, offset := 0, embedded := false, tag := "", pkgPath := "burrow/mods", byteOffset := 0 }, { name := "by", type := 24, offset := 4, embedded := false, tag := "", pkgPath := "burrow/mods", byteOffset := 32 }]), [.ints .u64 4 [0, 0, 0, 0], .ints .u64 4 [0, 0, 0, 0]], 0, [4, 4], false, 0⟩
theorem ty99 : TyOK Try.prog 99 ti99 := ⟨by kernel_rfl, by kernel_rfl, rfl, rfl, rfl, rfl, trivial, by show _ = _; kernel_rfl, fun h => absurd rfl h, fun h => by cases h⟩
def ti105 : TI := ⟨12, (Go.TypeDesc.struct #[{ name := "Group", type := 57, offset := 0, embedded := true, tag := "", pkgPath := "", byteOffset := 0 }]), [.ints .u64 4 [0, 0, 0, 0], .ints .u64 4 [0, 0, 0, 0], .ints .u64 4 [0, 0, 0, 0]], 0, [12], false, 0⟩
theorem ty105 : TyOK Try.prog 105 ti105 := ⟨by kernel_rfl, by kernel_rfl, rfl, rfl, rfl, rfl, trivial, by show _ = _; kernel_rfl, fun h => absurd rfl h, fun h => by cases h⟩
def ti107 : TI := ⟨20, (Go.TypeDesc.struct #[{ name := "ring", type := 105, offset := 0, embedded := true, tag := "", pkgPath := "burrow/groups", byteOffset := 0 }, { name := "a", type := 24, offset := 12, embedded := false, tag := "", pkgPath := "burrow/groups", byteOffset := 96 }, { name := "b", type := 24, offset := 16, embedded := false, tag := "", pkgPath := "burrow/groups", byteOffset := 128 }]), [.ints .u64 4 [0, 0, 0, 0], .ints .u64 4 [0, 0, 0, 0], .ints .u64 4 [0, 0, 0, 0], .ints .u64 4 [0, 0, 0, 0], .ints .u64 4 [0, 0, 0, 0]], 0, [12, 4, 4], false, 0⟩
theorem ty107 : TyOK Try.prog 107 ti107 := ⟨by kernel_rfl, by kernel_rfl, rfl, rfl, rfl, rfl, trivial, by show _ = _; kernel_rfl, fun h => absurd rfl h, fun h => by cases h⟩
def ti122 : TI := ⟨1, .slice 84, [.raw (.slice none 0 0)], 1, [], false, 0⟩
theorem ty122 : TyOK Try.prog 122 ti122 := ⟨by kernel_rfl, by kernel_rfl, rfl, rfl, rfl, rfl, by show _ = _; kernel_rfl, trivial, fun h => absurd rfl h, fun h => by cases h⟩
def ti128 : TI := ⟨1, .slice 22, [.raw (.slice none 0 0)], 1, [], false, 0⟩
theorem ty128 : TyOK Try.prog 128 ti128 := ⟨by kernel_rfl, by kernel_rfl, rfl, rfl, rfl, rfl, by show _ = _; kernel_rfl, trivial, fun h => absurd rfl h, fun h => by cases h⟩
def ti132 : TI := ⟨1, (Go.TypeDesc.pointer 145), [.raw (.pointer none)], 0, [], false, 0⟩
theorem ty132 : TyOK Try.prog 132 ti132 := ⟨by kernel_rfl, by kernel_rfl, rfl, rfl, rfl, rfl, trivial, trivial, fun h => absurd rfl h, fun h => by cases h⟩
def ti138 : TI := ⟨1, (Go.TypeDesc.pointer 140), [.raw (.pointer none)], 0, [], false, 0⟩
theorem ty138 : TyOK Try.prog 138 ti138 := ⟨by kernel_rfl, by kernel_rfl, rfl, rfl, rfl, rfl, trivial, trivial, fun h => absurd rfl h, fun h => by cases h⟩
def ti140 : TI := ⟨8, .array 8 50, [.ints .u32 8 [0, 0, 0, 0, 0, 0, 0, 0]], 1, [], true, 0⟩
theorem ty140 : TyOK Try.prog 140 ti140 := ⟨by kernel_rfl, by kernel_rfl, rfl, rfl, rfl, rfl, by show _ = _; kernel_rfl, trivial, fun h => absurd rfl h, fun _ => eqs_arr (e := 50) (by kernel_rfl) (by kernel_rfl) ⟨.u32, by kernel_rfl⟩ (by kernel_rfl)⟩
def ti141 : TI := ⟨64, .array 64 5, [.ints .u8 64 [0, 0, 0, 0, 0, 0, 0, 0, 0, 0, 0, 0, 0, 0, 0, 0, 0, 0, 0, 0, 0, 0, 0, 0, 0, 0, 0, 0, 0, 0, 0, 0, 0, 0, 0, 0, 0, 0, 0, 0, 0, 0, 0, 0, 0, 0, 0, 0, 0, 0, 0, 0, 0, 0, 0, 0, 0, 0, 0, 0, 0, 0, 0, 0]], 1, [], true, 0⟩
theorem ty141 : TyOK Try.prog 141 ti141 := ⟨by kernel_rfl, by kernel_rfl, rfl, rfl, rfl, rfl, by show _ = _; kernel_rfl, trivial, fun h => absurd rfl h, fun _ => eqs_arr (e := 5) (by kernel_rfl) (by kernel_rfl) ⟨.u8, by kernel_rfl⟩ (by kernel_rfl)⟩
def ti143 : TI := ⟨65, (Go.TypeDesc.struct #[{ name := "b", type := 141, offset := 0, embedded := false, tag := "", pkgPath := "burrow/shas", byteOffset := 0 }, { name := "many", type := 3, offset := 64, embedded := false, tag := "", pkgPath := "burrow/shas", byteOffset := 64 }]), [.ints .u8 64 [0, 0, 0, 0, 0, 0, 0, 0, 0, 0, 0, 0, 0, 0, 0, 0, 0, 0, 0, 0, 0, 0, 0, 0, 0, 0, 0, 0, 0, 0, 0, 0, 0, 0, 0, 0, 0, 0, 0, 0, 0, 0, 0, 0, 0, 0, 0, 0, 0, 0, 0, 0, 0, 0, 0, 0, 0, 0, 0, 0, 0, 0, 0, 0], .int .i64 0], 0, [64, 1], false, 0⟩
theorem ty143 : TyOK Try.prog 143 ti143 := ⟨by kernel_rfl, by kernel_rfl, rfl, rfl, rfl, rfl, trivial, by show _ = _; kernel_rfl, fun h => absurd rfl h, fun h => by cases h⟩
def ti145 : TI := ⟨67, (Go.TypeDesc.struct #[{ name := "s", type := 138, offset := 0, embedded := false, tag := "", pkgPath := "burrow/shas", byteOffset := 0 }, { name := "x", type := 143, offset := 1, embedded := false, tag := "", pkgPath := "burrow/shas", byteOffset := 8 }, { name := "many", type := 22, offset := 66, embedded := false, tag := "", pkgPath := "burrow/shas", byteOffset := 80 }]), [.raw (.pointer none), .ints .u8 64 [0, 0, 0, 0, 0, 0, 0, 0, 0, 0, 0, 0, 0, 0, 0, 0, 0, 0, 0, 0, 0, 0, 0, 0, 0, 0, 0, 0, 0, 0, 0, 0, 0, 0, 0, 0, 0, 0, 0, 0, 0, 0, 0, 0, 0, 0, 0, 0, 0, 0, 0, 0, 0, 0, 0, 0, 0, 0, 0, 0, 0, 0, 0, 0], .int .i64 0, .int .u64 0], 0, [1, 65, 1], false, 0⟩
theorem ty145 : TyOK Try.prog 145 ti145 := ⟨by kernel_rfl, by kernel_rfl, rfl, rfl, rfl, rfl, trivial, by show _ = _; kernel_rfl, fun h => absurd rfl h, fun h => by cases h⟩
def ti147 : TI := ⟨1, (Go.TypeDesc.pointer 143), [.raw (.pointer none)], 0, [], false, 0⟩
theorem ty147 : TyOK Try.prog 147 ti147 := ⟨by kernel_rfl, by kernel_rfl, rfl, rfl, rfl, rfl, trivial, trivial, fun h => absurd rfl h, fun h => by cases h⟩
def ti150 : TI := ⟨8, .array 8 5, [.ints .u8 8 [0, 0, 0, 0, 0, 0, 0, 0]], 1, [], true, 0⟩
theorem ty150 : TyOK Try.prog 150 ti150 := ⟨by kernel_rfl, by kernel_rfl, rfl, rfl, rfl, rfl, by show _ = _; kernel_rfl, trivial, fun h => absurd rfl h, fun _ => eqs_arr (e := 5) (by kernel_rfl) (by kernel_rfl) ⟨.u8, by kernel_rfl⟩ (by kernel_rfl)⟩
def ti153 : TI := ⟨64, .array 64 50, [.ints .u32 64 [0, 0, 0, 0, 0, 0, 0, 0, 0, 0, 0, 0, 0, 0, 0, 0, 0, 0, 0, 0, 0, 0, 0, 0, 0, 0, 0, 0, 0, 0, 0, 0, 0, 0, 0, 0, 0, 0, 0, 0, 0, 0, 0, 0, 0, 0, 0, 0, 0, 0, 0, 0, 0, 0, 0, 0, 0, 0, 0, 0, 0, 0, 0, 0]], 1, [], true, 0⟩
theorem ty153 : TyOK Try.prog 153 ti153 := ⟨by kernel_rfl, by kernel_rfl, rfl, rfl, rfl, rfl, by show _ = _; kernel_rfl, trivial, fun h => absurd rfl h, fun _ => eqs_arr (e := 50) (by kernel_rfl) (by kernel_rfl) ⟨.u32, by kernel_rfl⟩ (by kernel_rfl)⟩
def ti156 : TI := ⟨1, .slice 50, [.raw (.slice none 0 0)], 1, [], false, 0⟩
theorem ty156 : TyOK Try.prog 156 ti156 := ⟨by kernel_rfl, by kernel_rfl, rfl, rfl, rfl, rfl, by show _ = _; kernel_rfl, trivial, fun h => absurd rfl h, fun h => by cases h⟩
def ti157 : TI := ⟨16, .array 16 50, [.ints .u32 16 [0, 0, 0, 0, 0, 0, 0, 0, 0, 0, 0, 0, 0, 0, 0, 0]], 1, [], true, 0⟩
theorem ty157 : TyOK Try.prog 157 ti157 := ⟨by kernel_rfl, by kernel_rfl, rfl, rfl, rfl, rfl, by show _ = _; kernel_rfl, trivial, fun h => absurd rfl h, fun _ => eqs_arr (e := 50) (by kernel_rfl) (by kernel_rfl) ⟨.u32, by kernel_rfl⟩ (by kernel_rfl)⟩
def ti159 : TI := ⟨1, .slice 3, [.raw (.slice none 0 0)], 1, [], false, 0⟩
theorem ty159 : TyOK Try.prog 159 ti159 := ⟨by kernel_rfl, by kernel_rfl, rfl, rfl, rfl, rfl, by show _ = _; kernel_rfl, trivial, fun h => absurd rfl h, fun h => by cases h⟩
def tys : Tab := [(3, ti3), (4, ti4), (5, ti5), (9, ti9), (22, ti22), (24, ti24), (30, ti30), (47, ti47), (50, ti50), (53, ti53), (57, ti57), (64, ti64), (67, ti67), (70, ti70), (72, ti72), (78, ti78), (80, ti80), (83, ti83), (84, ti84), (89, ti89), (95, ti95), (99, ti99), (105, ti105), (107, ti107), (122, ti122), (128, ti128), (132, ti132), (138, ti138), (140, ti140), (141, ti141), (143, ti143), (145, ti145), (147, ti147), (150, ti150), (153, ti153), (156, ti156), (157, ti157), (159, ti159)]
theorem tys_ok : TyAll Try.prog (getA tys) := tyAll_of (by
  intro p hp
  simp only [tys, List.mem_cons, List.not_mem_nil, or_false] at hp
  rcases hp with rfl | rfl | rfl | rfl | rfl | rfl | rfl | rfl | rfl | rfl | rfl | rfl | rfl | rfl | rfl | rfl | rfl | rfl | rfl | rfl | rfl | rfl | rfl | rfl | rfl | rfl | rfl | rfl | rfl | rfl | rfl | rfl | rfl | rfl | rfl | rfl | rfl | rfl
  · exact ty3
  · exact ty4
  · exact ty5
  · exact ty9
  · exact ty22
  · exact ty24
  · exact ty30
  · exact ty47
  · exact ty50
  · exact ty53
  · exact ty57
  · exact ty64
  · exact ty67
  · exact ty70
  · exact ty72
  · exact ty78
  · exact ty80
  · exact ty83
  · exact ty84
  · exact ty89
  · exact ty95
  · exact ty99
  · exact ty105
  · exact ty107
  · exact ty122
  · exact ty128
  · exact ty132
  · exact ty138
  · exact ty140
  · exact ty141
  · exact ty143
  · exact ty145
  · exact ty147
  · exact ty150
  · exact ty153
  · exact ty156
  · exact ty157
  · exact ty159)
end Go.Proofs

namespace Go.Proofs
open Go.VM
noncomputable def f92.c : Code := bodyOf Try.f92
def f92.lp (_ : Nat) : Nat → Option (Hint × Summ) := fun _ => none
noncomputable def f92.tab (_K : Nat) : List (Nat × Entry) := []
theorem f92.tabOK (K : Nat) : SpecOK Try.prog (tabSp (f92.tab K)) := tab_ok ( tab_nil)
theorem f92.loops (K : Nat) : LoopsOK Try.prog 20 0 (f92.lp K) f92.c := loops_ok (by
  have h : loopsIn (f92.lp K) f92.c = [] := by kernel_rfl
  rw [h]; simp)
def f92.T (_K : Nat) (a0 : List Int) : Option (List Int) :=
  some ([(bits .and .u64 (Int.fdiv (List.getD a0 0 0) (2 ^ 0)) 4294967295), (bits .and .u64 (Int.fdiv (List.getD a0 0 0) (2 ^ 32)) 4294967295), (bits .and .u64 (Int.fdiv (List.getD a0 1 0) (2 ^ 0)) 4294967295), (bits .and .u64 (Int.fdiv (List.getD a0 1 0) (2 ^ 32)) 4294967295), (bits .and .u64 (Int.fdiv (List.getD a0 2 0) (2 ^ 0)) 4294967295), (bits .and .u64 (Int.fdiv (List.getD a0 2 0) (2 ^ 32)) 4294967295), (bits .and .u64 (Int.fdiv (List.getD a0 3 0) (2 ^ 0)) 4294967295), (bits .and .u64 (Int.fdiv (List.getD a0 3 0) (2 ^ 32)) 4294967295)])
def f92.F (K : Nat) (x : List Int) : Option (List Int) := f92.T K x
def f92.av (x : List Int) : List VV := [.agg [.ints .u64 4 x]]
def f92.bl (_x : List Int) : List (Nat × Blk) := []
def f92.inA : VS → Option (List Int)
  | ⟨[(0, .agg [.ints .u64 4 a0])], [], 0⟩ => some a0
  | _ => none
def f92.o0 (y : List Int) : VS := ⟨[(0, .agg [.ints .u64 8 y])], [], 0⟩
def f92.des : ∀ α : Type, (List Int) → (VS → Option α) → Option α := (dv1 f92.o0)
def f92.out : List Int → VS := f92.o0
def f92.inR : VS → Option (List Int)
  | ⟨[(0, .agg [.ints .u64 8 y])], [], 0⟩ => some y
  | _ => none
noncomputable def f92.E (K : Nat) : Entry := genE 0 f92.inA (f92.F K) f92.des
theorem f92.eq (K : Nat) (x : List Int) : f92.F K x = xrun (getA tys) (tabSp (f92.tab K)) Try.f92.ntmps 0 (f92.lp K) 400 f92.c ⟨initL 0 (f92.av x), f92.bl x, 0⟩ (contF (getA tys) 0 Try.f92.results.toList f92.inR) := by kernel_rfl
theorem f92.ok (K : Nat) : EntryOK Try.prog 92 (f92.E K) :=
  gen_ok mix tys_ok (f92.tabOK K) Try.func92 (by kernel_rfl : Try.f92.body = some f92.c) (by kernel_rfl) (f92.loops K) (av := f92.av) (bl := f92.bl) (out := f92.out) (fuel := 400)
    (by intro s x h; unfold f92.inA at h; split at h <;> simp at h; subst h; rfl) (fun _ => Nat.le_of_ble_eq_true rfl)
    (by intro s y h; unfold f92.inR at h; split at h <;> simp at h <;> subst h <;> rfl) (fun _ _ _ => rfl) (f92.eq K)
end Go.Proofs

namespace Go.Proofs
open Go.VM
noncomputable def f93.c : Code := bodyOf Try.f93
def f93.lp (_ : Nat) : Nat → Option (Hint × Summ) := fun _ => none
noncomputable def f93.tab (_K : Nat) : List (Nat × Entry) := []
theorem f93.tabOK (K : Nat) : SpecOK Try.prog (tabSp (f93.tab K)) := tab_ok ( tab_nil)
theorem f93.loops (K : Nat) : LoopsOK Try.prog 22 0 (f93.lp K) f93.c := loops_ok (by
  have h : loopsIn (f93.lp K) f93.c = [] := by kernel_rfl
  rw [h]; simp)
def f93.T (_K : Nat) (a0 : List Int) : Option (List Int) :=
  some ([(bits .or .u64 (IntKind.wrap .u64 ((List.getD a0 1 0) * 2 ^ 32)) (List.getD a0 0 0)), (bits .or .u64 (IntKind.wrap .u64 ((List.getD a0 3 0) * 2 ^ 32)) (List.getD a0 2 0)), (bits .or .u64 (IntKind.wrap .u64 ((List.getD a0 5 0) * 2 ^ 32)) (List.getD a0 4 0)), (bits .or .u64 (IntKind.wrap .u64 ((List.getD a0 7 0) * 2 ^ 32)) (List.getD a0 6 0))])
def f93.F (K : Nat) (x : List Int) : Option (List Int) := f93.T K x
def f93.av (x : List Int) : List VV := [.agg [.ints .u64 8 x]]
def f93.bl (_x : List Int) : List (Nat × Blk) := []
def f93.inA : VS → Option (List Int)
  | ⟨[(0, .agg [.ints .u64 8 a0])], [], 0⟩ => some a0
  | _ => none
def f93.o0 (y : List Int) : VS := ⟨[(0, .agg [.ints .u64 4 y])], [], 0⟩
def f93.des : ∀ α : Type, (List Int) → (VS → Option α) → Option α := (dv1 f93.o0)
def f93.out : List Int → VS := f93.o0
def f93.inR : VS → Option (List Int)
  | ⟨[(0, .agg [.ints .u64 4 y])], [], 0⟩ => some y
  | _ => none
noncomputable def f93.E (K : Nat) : Entry := genE 0 f93.inA (f93.F K) f93.des
theorem f93.eq (K : Nat) (x : List Int) : f93.F K x = xrun (getA tys) (tabSp (f93.tab K)) Try.f93.ntmps 0 (f93.lp K) 400 f93.c ⟨initL 0 (f93.av x), f93.bl x, 0⟩ (contF (getA tys) 0 Try.f93.results.toList f93.inR) := by kernel_rfl
theorem f93.ok (K : Nat) : EntryOK Try.prog 93 (f93.E K) :=
  gen_ok mix tys_ok (f93.tabOK K) Try.func93 (by kernel_rfl : Try.f93.body = some f93.c) (by kernel_rfl) (f93.loops K) (av := f93.av) (bl := f93.bl) (out := f93.out) (fuel := 400)
    (by intro s x h; unfold f93.inA at h; split at h <;> simp at h; subst h; rfl) (fun _ => Nat.le_of_ble_eq_true rfl)
    (by intro s y h; unfold f93.inR at h; split at h <;> simp at h <;> subst h <;> rfl) (fun _ _ _ => rfl) (f93.eq K)
end Go.Proofs

namespace Go.Proofs
open Go.VM
noncomputable def f94.c : Code := bodyOf Try.f94
def f94.s0t (_K : Nat) (rec : Int × Int × List Int → Option (List Int)) (t0 : Int) (t5 : Int) (b0 : List Int) : Option (List Int) :=
  bif (decide (t5 > 0)) then
    let v2 := IntKind.wrap .i64 (Int.tdiv t0 8)
    let v3 := Int.tmod t0 8
    bif decide (0 ≤ v2 ∧ v2 < 2) then
      bif decide (0 ≤ v3 ∧ v3 < 8) then
        let v5 := ((Int.toNat v2) * 8) + (Int.toNat v3)
        let v7 := IntKind.wrap .u64 (t5 + (List.getD b0 v5 0))
        rec ((IntKind.wrap .i64 (t0 + 1)), (Int.fdiv v7 (2 ^ 32)), (setD b0 v5 (bits .and .u64 v7 4294967295)))
      else
        none
    else
      none
  else
    some b0
def f94.s0 (K : Nat) (rec : Int × Int × List Int → Option (List Int)) (x : Int × Int × List Int) : Option (List Int) := f94.s0t K rec x.1 x.2.1 x.2.2
noncomputable def f94.s0.b : Code := (findLoop 0 f94.c).getD .skip
def f94.s0.h : Hint := { lv := [0, 2, 5] }
def f94.s0.ho : Hint := { lv := [] }
def f94.s0.shp (x : Int × Int × List Int) : VS := ⟨[(0, .int .i64 x.1), (2, .ptr 0 0), (5, .int .u64 x.2.1)], [(0, ([.ints .u64 16 x.2.2], 80, .norm))], 1⟩
def f94.s0.inX : VS → Option (Int × Int × List Int)
  | ⟨[(0, .int .i64 t0), (2, .ptr 0 0), (5, .int .u64 t5)], [(0, ([.ints .u64 16 b0], 80, .norm))], 1⟩ => some (t0, t5, b0)
  | _ => none
def f94.s0.o0 (y : List Int) : VS := ⟨[], [(0, ([.ints .u64 16 y], 80, .norm))], 1⟩
def f94.s0.des : ∀ α : Type, (List Int) → (Ex → VS → Option α) → Option α := (des1 (.exit 0) f94.s0.o0)
def f94.s0.out : List Int → Ex × VS := (fun y => (.exit 0, f94.s0.o0 y))
theorem f94.s0.desOK : ∀ α y (k : Ex → VS → Option α), f94.s0.des α y k = k (f94.s0.out y).1 (f94.s0.out y).2 := (fun _ _ _ => rfl)
def f94.s0.inY : Ex → VS → Option (List Int)
  | .exit 0, ⟨[], [(0, ([.ints .u64 16 b0], 80, .norm))], 1⟩ => some b0
  | _, _ => none
def f94.lp (K : Nat) : Nat → Option (Hint × Summ) := tabLp [(0, f94.s0.h, summOf (iter (f94.s0 K) K) f94.s0.inX f94.s0.des)]
noncomputable def f94.tab (_K : Nat) : List (Nat × Entry) := []
theorem f94.tabOK (K : Nat) : SpecOK Try.prog (tabSp (f94.tab K)) := tab_ok ( tab_nil)
theorem f94.s0.eq (K : Nat) (rec : Int × Int × List Int → Option (List Int)) (x : Int × Int × List Int) : f94.s0 K rec x = roundL (getA tys) (tabSp (f94.tab K)) 29 1 (f94.lp K) 400 f94.s0.b f94.s0.h f94.s0.ho f94.s0.shp f94.s0.inX f94.s0.inY rec x := by kernel_rfl
theorem f94.s0.lok (K : Nat) : LoopsOK Try.prog 29 1 (f94.lp K) f94.s0.b := loops_ok (by
  have h : loopsIn (f94.lp K) f94.s0.b = [] := by kernel_rfl
  rw [h]; simp)
theorem f94.s0.ok (K : Nat) : SummOK Try.prog 29 1 (summOf (iter (f94.s0 K) K) f94.s0.inX f94.s0.des) f94.s0.b :=
  loop_ok mix tys_ok (f94.tabOK K) (h := f94.s0.h) (ho := f94.s0.ho) (shp := f94.s0.shp) (inX := f94.s0.inX) (des := f94.s0.des) (out := f94.s0.out) (inY := f94.s0.inY) (fuel := 400)
    (by intro st x h; unfold f94.s0.inX at h; split at h <;> simp at h; subst h; rfl)
    (by intro e st y h; unfold f94.s0.inY at h; split at h <;> simp at h <;> subst h <;> rfl)
    f94.s0.desOK (f94.s0.lok K) (f94.s0 K) (f94.s0.eq K) K
theorem f94.loops (K : Nat) : LoopsOK Try.prog 29 1 (f94.lp K) f94.c := loops_ok (by
  have h : loopsIn (f94.lp K) f94.c = [(0, f94.s0.b)] := by kernel_rfl
  rw [h]
  intro p hp
  simp only [List.mem_cons, List.not_mem_nil, or_false] at hp
  rcases hp with rfl
  · exact ⟨_, rfl, (f94.s0.ok K)⟩)
def f94.T (K : Nat) (a0 : Int) (a1 : Int) (m0 : List Int) : Option (List Int) :=
  (iter (f94.s0 K) K (a0, a1, m0)).bind fun y12 =>
  some y12
def f94.F (K : Nat) (x : Int × Int × List Int) : Option (List Int) := f94.T K x.1 x.2.1 x.2.2
def f94.av (x : Int × Int × List Int) : List VV := [.int .i64 x.1, .int .u64 x.2.1, .ptr 0 0]
def f94.bl (x : Int × Int × List Int) : List (Nat × Blk) := [(0, ([.ints .u64 16 x.2.2], 80, .norm))]
def f94.inA : VS → Option (Int × Int × List Int)
  | ⟨[(0, .int .i64 a0), (1, .int .u64 a1), (2, .ptr 0 0)], [(0, ([.ints .u64 16 m0], 80, .norm))], 1⟩ => some (a0, a1, m0)
  | _ => none
def f94.o0 (y : List Int) : VS := ⟨[(0, .tup [])], [(0, ([.ints .u64 16 y], 80, .norm))], 1⟩
def f94.des : ∀ α : Type, (List Int) → (VS → Option α) → Option α := (dv1 f94.o0)
def f94.out : List Int → VS := f94.o0
def f94.inR : VS → Option (List Int)
  | ⟨[(0, .tup [])], [(0, ([.ints .u64 16 z0], 80, .norm))], 1⟩ => some z0
  | _ => none
noncomputable def f94.E (K : Nat) : Entry := genE 1 f94.inA (f94.F K) f94.des
theorem f94.eq (K : Nat) (x : Int × Int × List Int) : f94.F K x = xrun (getA tys) (tabSp (f94.tab K)) Try.f94.ntmps 1 (f94.lp K) 400 f94.c ⟨initL 0 (f94.av x), f94.bl x, 1⟩ (contF (getA tys) 1 Try.f94.results.toList f94.inR) := by kernel_rfl
theorem f94.ok (K : Nat) : EntryOK Try.prog 94 (f94.E K) :=
  gen_ok mix tys_ok (f94.tabOK K) Try.func94 (by kernel_rfl : Try.f94.body = some f94.c) (by kernel_rfl) (f94.loops K) (av := f94.av) (bl := f94.bl) (out := f94.out) (fuel := 400)
    (by intro s x h; unfold f94.inA at h; split at h <;> simp at h; subst h; rfl) (fun _ => Nat.le_of_ble_eq_true rfl)
    (by intro s y h; unfold f94.inR at h; split at h <;> simp at h <;> subst h <;> rfl) (fun _ _ _ => rfl) (f94.eq K)
end Go.Proofs

namespace Go.Proofs
open Go.VM
noncomputable def f32.c : Code := bodyOf Try.f32
def f32.s0t (_K : Nat) (rec : Int × Int × List Int × List Int × List Int → Option (Int × List Int × List Int)) (t8 : Int) (t14 : Int) (b0 : List Int) (b1 : List Int) (b2 : List Int) : Option (Int × List Int × List Int) :=
  bif (decide (t14 < 8)) then
    bif decide (0 ≤ t14 ∧ t14 < 8) then
      bif decide (0 ≤ t14 ∧ t14 < 8) then
        let v9 := IntKind.wrap .u64 (t8 + (IntKind.wrap .u64 ((List.getD b1 (Int.toNat t14) 0) + (List.getD b2 (Int.toNat t14) 0))))
        bif decide (0 ≤ t14 ∧ t14 < 8) then
          rec ((Int.fdiv v9 (2 ^ 32)), (IntKind.wrap .i64 (t14 + 1)), b0, (setD b1 (Int.toNat t14) (bits .and .u64 v9 4294967295)), b2)
        else
          none
      else
        none
    else
      none
  else
    some (t8, b0, b1)
def f32.s0 (K : Nat) (rec : Int × Int × List Int × List Int × List Int → Option (Int × List Int × List Int)) (x : Int × Int × List Int × List Int × List Int) : Option (Int × List Int × List Int) := f32.s0t K rec x.1 x.2.1 x.2.2.1 x.2.2.2.1 x.2.2.2.2
noncomputable def f32.s0.b : Code := (findLoop 0 f32.c).getD .skip
def f32.s0.h : Hint := { lv := [4, 6, 7, 8, 14] }
def f32.s0.ho : Hint := { lv := [4, 6, 8] }
def f32.s0.shp (x : Int × Int × List Int × List Int × List Int) : VS := ⟨[(4, .ptr 0 0), (6, .ptr 1 0), (7, .ptr 2 0), (8, .int .u64 x.1), (14, .int .i64 x.2.1)], [(0, ([.ints .u64 4 x.2.2.1], 24, .norm)), (1, ([.ints .u64 8 x.2.2.2.1], 78, .norm)), (2, ([.ints .u64 8 x.2.2.2.2], 78, .norm))], 3⟩
def f32.s0.inX : VS → Option (Int × Int × List Int × List Int × List Int)
  | ⟨[(4, .ptr 0 0), (6, .ptr 1 0), (7, .ptr 2 0), (8, .int .u64 t8), (14, .int .i64 t14)], [(0, ([.ints .u64 4 b0], 24, .norm)), (1, ([.ints .u64 8 b1], 78, .norm)), (2, ([.ints .u64 8 b2], 78, .norm))], 3⟩ => some (t8, t14, b0, b1, b2)
  | _ => none
def f32.s0.o0 (y : Int × List Int × List Int) : VS := ⟨[(4, .ptr 0 0), (6, .ptr 1 0), (8, .int .u64 y.1)], [(0, ([.ints .u64 4 y.2.1], 24, .norm)), (1, ([.ints .u64 8 y.2.2], 78, .norm))], 2⟩
def f32.s0.des : ∀ α : Type, (Int × List Int × List Int) → (Ex → VS → Option α) → Option α := (des1 (.exit 0) f32.s0.o0)
def f32.s0.out : Int × List Int × List Int → Ex × VS := (fun y => (.exit 0, f32.s0.o0 y))
theorem f32.s0.desOK : ∀ α y (k : Ex → VS → Option α), f32.s0.des α y k = k (f32.s0.out y).1 (f32.s0.out y).2 := (fun _ _ _ => rfl)
def f32.s0.inY : Ex → VS → Option (Int × List Int × List Int)
  | .exit 0, ⟨[(4, .ptr 0 0), (6, .ptr 1 0), (8, .int .u64 t8)], [(0, ([.ints .u64 4 b0], 24, .norm)), (1, ([.ints .u64 8 b1], 78, .norm))], 2⟩ => some (t8, b0, b1)
  | _, _ => none
def f32.lp (K : Nat) : Nat → Option (Hint × Summ) := tabLp [(0, f32.s0.h, summOf (iter (f32.s0 K) K) f32.s0.inX f32.s0.des)]
noncomputable def f32.tab (K : Nat) : List (Nat × Entry) := [(92, (f92.E K)), (93, (f93.E K))]
theorem f32.tabOK (K : Nat) : SpecOK Try.prog (tabSp (f32.tab K)) := tab_ok ((tab_cons (f92.ok K) (tab_cons (f93.ok K) tab_nil)))
theorem f32.s0.eq (K : Nat) (rec : Int × Int × List Int × List Int × List Int → Option (Int × List Int × List Int)) (x : Int × Int × List Int × List Int × List Int) : f32.s0 K rec x = roundL (getA tys) (tabSp (f32.tab K)) 36 0 (f32.lp K) 400 f32.s0.b f32.s0.h f32.s0.ho f32.s0.shp f32.s0.inX f32.s0.inY rec x := by kernel_rfl
theorem f32.s0.lok (K : Nat) : LoopsOK Try.prog 36 0 (f32.lp K) f32.s0.b := loops_ok (by
  have h : loopsIn (f32.lp K) f32.s0.b = [] := by kernel_rfl
  rw [h]; simp)
theorem f32.s0.ok (K : Nat) : SummOK Try.prog 36 0 (summOf (iter (f32.s0 K) K) f32.s0.inX f32.s0.des) f32.s0.b :=
  loop_ok mix tys_ok (f32.tabOK K) (h := f32.s0.h) (ho := f32.s0.ho) (shp := f32.s0.shp) (inX := f32.s0.inX) (des := f32.s0.des) (out := f32.s0.out) (inY := f32.s0.inY) (fuel := 400)
    (by intro st x h; unfold f32.s0.inX at h; split at h <;> simp at h; subst h; rfl)
    (by intro e st y h; unfold f32.s0.inY at h; split at h <;> simp at h <;> subst h <;> rfl)
    f32.s0.desOK (f32.s0.lok K) (f32.s0 K) (f32.s0.eq K) K
theorem f32.loops (K : Nat) : LoopsOK Try.prog 36 0 (f32.lp K) f32.c := loops_ok (by
  have h : loopsIn (f32.lp K) f32.c = [(0, f32.s0.b)] := by kernel_rfl
  rw [h]
  intro p hp
  simp only [List.mem_cons, List.not_mem_nil, or_false] at hp
  rcases hp with rfl
  · exact ⟨_, rfl, (f32.s0.ok K)⟩)
def f32.T (K : Nat) (a0 : List Int) (a1 : List Int) : Option (List Int × Int) :=
  (f92.F K a0).bind fun y1 =>
  (f92.F K a1).bind fun y2 =>
  (iter (f32.s0 K) K (0, 0, [0, 0, 0, 0], y1, y2)).bind fun y15 =>
  (f93.F K y15.2.2).bind fun y16 =>
  some (y16, y15.1)
def f32.F (K : Nat) (x : List Int × List Int) : Option (List Int × Int) := f32.T K x.1 x.2
def f32.av (x : List Int × List Int) : List VV := [.agg [.ints .u64 4 x.1], .agg [.ints .u64 4 x.2]]
def f32.bl (_x : List Int × List Int) : List (Nat × Blk) := []
def f32.inA : VS → Option (List Int × List Int)
  | ⟨[(0, .agg [.ints .u64 4 a0]), (1, .agg [.ints .u64 4 a1])], [], 0⟩ => some (a0, a1)
  | _ => none
def f32.o0 (y : List Int × Int) : VS := ⟨[(0, .tup [.agg [.ints .u64 4 y.1], .int .u64 y.2])], [], 0⟩
def f32.des : ∀ α : Type, (List Int × Int) → (VS → Option α) → Option α := (dv1 f32.o0)
def f32.out : List Int × Int → VS := f32.o0
def f32.inR : VS → Option (List Int × Int)
  | ⟨[(0, .tup [.agg [.ints .u64 4 y_0], .int .u64 y_1])], [], 0⟩ => some (y_0, y_1)
  | _ => none
noncomputable def f32.E (K : Nat) : Entry := genE 0 f32.inA (f32.F K) f32.des
theorem f32.eq (K : Nat) (x : List Int × List Int) : f32.F K x = xrun (getA tys) (tabSp (f32.tab K)) Try.f32.ntmps 0 (f32.lp K) 400 f32.c ⟨initL 0 (f32.av x), f32.bl x, 0⟩ (contF (getA tys) 0 Try.f32.results.toList f32.inR) := by kernel_rfl
theorem f32.ok (K : Nat) : EntryOK Try.prog 32 (f32.E K) :=
  gen_ok mix tys_ok (f32.tabOK K) Try.func32 (by kernel_rfl : Try.f32.body = some f32.c) (by kernel_rfl) (f32.loops K) (av := f32.av) (bl := f32.bl) (out := f32.out) (fuel := 400)
    (by intro s x h; unfold f32.inA at h; split at h <;> simp at h; subst h; rfl) (fun _ => Nat.le_of_ble_eq_true rfl)
    (by intro s y h; unfold f32.inR at h; split at h <;> simp at h <;> subst h <;> rfl) (fun _ _ _ => rfl) (f32.eq K)
end Go.Proofs

namespace Go.Proofs
open Go.VM
end Go.Proofs

namespace Go.Proofs
open Go.VM
noncomputable def f34.c : Code := bodyOf Try.f34
def f34.s0t (_K : Nat) (rec : Int × Int × List Int × List Int × List Int → Option (Int × List Int × List Int)) (t8 : Int) (t14 : Int) (b0 : List Int) (b1 : List Int) (b2 : List Int) : Option (Int × List Int × List Int) :=
  bif (decide (t14 < 8)) then
    bif decide (0 ≤ t14 ∧ t14 < 8) then
      bif decide (0 ≤ t14 ∧ t14 < 8) then
        let v10 := IntKind.wrap .u64 (t8 + (IntKind.wrap .u64 ((List.getD b1 (Int.toNat t14) 0) + (IntKind.wrap .u64 (4294967295 - (List.getD b2 (Int.toNat t14) 0))))))
        bif decide (0 ≤ t14 ∧ t14 < 8) then
          rec ((Int.fdiv v10 (2 ^ 32)), (IntKind.wrap .i64 (t14 + 1)), b0, (setD b1 (Int.toNat t14) (bits .and .u64 v10 4294967295)), b2)
        else
          none
      else
        none
    else
      none
  else
    some (t8, b0, b1)
def f34.s0 (K : Nat) (rec : Int × Int × List Int × List Int × List Int → Option (Int × List Int × List Int)) (x : Int × Int × List Int × List Int × List Int) : Option (Int × List Int × List Int) := f34.s0t K rec x.1 x.2.1 x.2.2.1 x.2.2.2.1 x.2.2.2.2
noncomputable def f34.s0.b : Code := (findLoop 0 f34.c).getD .skip
def f34.s0.h : Hint := { lv := [4, 6, 7, 8, 14] }
def f34.s0.ho : Hint := { lv := [4, 6, 8] }
def f34.s0.shp (x : Int × Int × List Int × List Int × List Int) : VS := ⟨[(4, .ptr 0 0), (6, .ptr 1 0), (7, .ptr 2 0), (8, .int .u64 x.1), (14, .int .i64 x.2.1)], [(0, ([.ints .u64 4 x.2.2.1], 24, .norm)), (1, ([.ints .u64 8 x.2.2.2.1], 78, .norm)), (2, ([.ints .u64 8 x.2.2.2.2], 78, .norm))], 3⟩
def f34.s0.inX : VS → Option (Int × Int × List Int × List Int × List Int)
  | ⟨[(4, .ptr 0 0), (6, .ptr 1 0), (7, .ptr 2 0), (8, .int .u64 t8), (14, .int .i64 t14)], [(0, ([.ints .u64 4 b0], 24, .norm)), (1, ([.ints .u64 8 b1], 78, .norm)), (2, ([.ints .u64 8 b2], 78, .norm))], 3⟩ => some (t8, t14, b0, b1, b2)
  | _ => none
def f34.s0.o0 (y : Int × List Int × List Int) : VS := ⟨[(4, .ptr 0 0), (6, .ptr 1 0), (8, .int .u64 y.1)], [(0, ([.ints .u64 4 y.2.1], 24, .norm)), (1, ([.ints .u64 8 y.2.2], 78, .norm))], 2⟩
def f34.s0.des : ∀ α : Type, (Int × List Int × List Int) → (Ex → VS → Option α) → Option α := (des1 (.exit 0) f34.s0.o0)
def f34.s0.out : Int × List Int × List Int → Ex × VS := (fun y => (.exit 0, f34.s0.o0 y))
theorem f34.s0.desOK : ∀ α y (k : Ex → VS → Option α), f34.s0.des α y k = k (f34.s0.out y).1 (f34.s0.out y).2 := (fun _ _ _ => rfl)
def f34.s0.inY : Ex → VS → Option (Int × List Int × List Int)
  | .exit 0, ⟨[(4, .ptr 0 0), (6, .ptr 1 0), (8, .int .u64 t8)], [(0, ([.ints .u64 4 b0], 24, .norm)), (1, ([.ints .u64 8 b1], 78, .norm))], 2⟩ => some (t8, b0, b1)
  | _, _ => none
def f34.lp (K : Nat) : Nat → Option (Hint × Summ) := tabLp [(0, f34.s0.h, summOf (iter (f34.s0 K) K) f34.s0.inX f34.s0.des)]
noncomputable def f34.tab (K : Nat) : List (Nat × Entry) := [(92, (f92.E K)), (93, (f93.E K))]
theorem f34.tabOK (K : Nat) : SpecOK Try.prog (tabSp (f34.tab K)) := tab_ok ((tab_cons (f92.ok K) (tab_cons (f93.ok K) tab_nil)))
theorem f34.s0.eq (K : Nat) (rec : Int × Int × List Int × List Int × List Int → Option (Int × List Int × List Int)) (x : Int × Int × List Int × List Int × List Int) : f34.s0 K rec x = roundL (getA tys) (tabSp (f34.tab K)) 38 0 (f34.lp K) 400 f34.s0.b f34.s0.h f34.s0.ho f34.s0.shp f34.s0.inX f34.s0.inY rec x := by kernel_rfl
theorem f34.s0.lok (K : Nat) : LoopsOK Try.prog 38 0 (f34.lp K) f34.s0.b := loops_ok (by
  have h : loopsIn (f34.lp K) f34.s0.b = [] := by kernel_rfl
  rw [h]; simp)
theorem f34.s0.ok (K : Nat) : SummOK Try.prog 38 0 (summOf (iter (f34.s0 K) K) f34.s0.inX f34.s0.des) f34.s0.b :=
  loop_ok mix tys_ok (f34.tabOK K) (h := f34.s0.h) (ho := f34.s0.ho) (shp := f34.s0.shp) (inX := f34.s0.inX) (des := f34.s0.des) (out := f34.s0.out) (inY := f34.s0.inY) (fuel := 400)
    (by intro st x h; unfold f34.s0.inX at h; split at h <;> simp at h; subst h; rfl)
    (by intro e st y h; unfold f34.s0.inY at h; split at h <;> simp at h <;> subst h <;> rfl)
    f34.s0.desOK (f34.s0.lok K) (f34.s0 K) (f34.s0.eq K) K
theorem f34.loops (K : Nat) : LoopsOK Try.prog 38 0 (f34.lp K) f34.c := loops_ok (by
  have h : loopsIn (f34.lp K) f34.c = [(0, f34.s0.b)] := by kernel_rfl
  rw [h]
  intro p hp
  simp only [List.mem_cons, List.not_mem_nil, or_false] at hp
  rcases hp with rfl
  · exact ⟨_, rfl, (f34.s0.ok K)⟩)
def f34.T (K : Nat) (a0 : List Int) (a1 : List Int) : Option (List Int × Int) :=
  (f92.F K a0).bind fun y1 =>
  (f92.F K a1).bind fun y2 =>
  (iter (f34.s0 K) K (1, 0, [0, 0, 0, 0], y1, y2)).bind fun y16 =>
  (f93.F K y16.2.2).bind fun y17 =>
  some (y17, (IntKind.wrap .u64 (1 - y16.1)))
def f34.F (K : Nat) (x : List Int × List Int) : Option (List Int × Int) := f34.T K x.1 x.2
def f34.av (x : List Int × List Int) : List VV := [.agg [.ints .u64 4 x.1], .agg [.ints .u64 4 x.2]]
def f34.bl (_x : List Int × List Int) : List (Nat × Blk) := []
def f34.inA : VS → Option (List Int × List Int)
  | ⟨[(0, .agg [.ints .u64 4 a0]), (1, .agg [.ints .u64 4 a1])], [], 0⟩ => some (a0, a1)
  | _ => none
def f34.o0 (y : List Int × Int) : VS := ⟨[(0, .tup [.agg [.ints .u64 4 y.1], .int .u64 y.2])], [], 0⟩
def f34.des : ∀ α : Type, (List Int × Int) → (VS → Option α) → Option α := (dv1 f34.o0)
def f34.out : List Int × Int → VS := f34.o0
def f34.inR : VS → Option (List Int × Int)
  | ⟨[(0, .tup [.agg [.ints .u64 4 y_0], .int .u64 y_1])], [], 0⟩ => some (y_0, y_1)
  | _ => none
noncomputable def f34.E (K : Nat) : Entry := genE 0 f34.inA (f34.F K) f34.des
theorem f34.eq (K : Nat) (x : List Int × List Int) : f34.F K x = xrun (getA tys) (tabSp (f34.tab K)) Try.f34.ntmps 0 (f34.lp K) 400 f34.c ⟨initL 0 (f34.av x), f34.bl x, 0⟩ (contF (getA tys) 0 Try.f34.results.toList f34.inR) := by kernel_rfl
theorem f34.ok (K : Nat) : EntryOK Try.prog 34 (f34.E K) :=
  gen_ok mix tys_ok (f34.tabOK K) Try.func34 (by kernel_rfl : Try.f34.body = some f34.c) (by kernel_rfl) (f34.loops K) (av := f34.av) (bl := f34.bl) (out := f34.out) (fuel := 400)
    (by intro s x h; unfold f34.inA at h; split at h <;> simp at h; subst h; rfl) (fun _ => Nat.le_of_ble_eq_true rfl)
    (by intro s y h; unfold f34.inR at h; split at h <;> simp at h <;> subst h <;> rfl) (fun _ _ _ => rfl) (f34.eq K)
end Go.Proofs

namespace Go.Proofs
open Go.VM
end Go.Proofs

namespace Go.Proofs
open Go.VM
noncomputable def f36.c : Code := bodyOf Try.f36
def f36.s2t (K : Nat) (rec : Int × Int × Int × List Int × List Int × List Int × List Int × List Int → Option (Int × List Int × List Int × List Int × List Int × List Int)) (t10 : Int) (t17 : Int) (t20 : Int) (b0 : List Int) (b1 : List Int) (b2 : List Int) (b3 : List Int) (b4 : List Int) : Option (Int × List Int × List Int × List Int × List Int × List Int) :=
  bif (decide (t20 < 8)) then
    bif decide (0 ≤ t10 ∧ t10 < 8) then
      bif decide (0 ≤ t20 ∧ t20 < 8) then
        (f94.F K ((IntKind.wrap .i64 (t10 + t20)), (IntKind.wrap .u64 ((List.getD b2 (Int.toNat t10) 0) * (List.getD b3 (Int.toNat t20) 0))), b4)).bind fun y11 =>
        rec (t10, t17, (IntKind.wrap .i64 (t20 + 1)), b0, b1, b2, b3, y11)
      else
        none
    else
      none
  else
    some (t17, b0, b1, b2, b3, b4)
def f36.s2 (K : Nat) (rec : Int × Int × Int × List Int × List Int × List Int × List Int × List Int → Option (Int × List Int × List Int × List Int × List Int × List Int)) (x : Int × Int × Int × List Int × List Int × List Int × List Int × List Int) : Option (Int × List Int × List Int × List Int × List Int × List Int) := f36.s2t K rec x.1 x.2.1 x.2.2.1 x.2.2.2.1 x.2.2.2.2.1 x.2.2.2.2.2.1 x.2.2.2.2.2.2.1 x.2.2.2.2.2.2.2
noncomputable def f36.s2.b : Code := (findLoop 2 f36.c).getD .skip
def f36.s2.h : Hint := { lv := [4, 5, 6, 7, 8, 9, 10, 17, 20] }
def f36.s2.ho : Hint := { lv := [4, 5, 6, 7, 8, 9, 17] }
def f36.s2.shp (x : Int × Int × Int × List Int × List Int × List Int × List Int × List Int) : VS := ⟨[(4, .ptr 0 0), (5, .ptr 1 0), (6, .ptr 2 0), (7, .ptr 3 0), (8, .ptr 4 0), (9, .fn 94 [.ptr 4 0]), (10, .int .i64 x.1), (17, .int .i64 x.2.1), (20, .int .i64 x.2.2.1)], [(0, ([.ints .u64 4 x.2.2.2.1], 24, .norm)), (1, ([.ints .u64 4 x.2.2.2.2.1], 24, .norm)), (2, ([.ints .u64 8 x.2.2.2.2.2.1], 78, .norm)), (3, ([.ints .u64 8 x.2.2.2.2.2.2.1], 78, .norm)), (4, ([.ints .u64 16 x.2.2.2.2.2.2.2], 80, .norm))], 5⟩
def f36.s2.inX : VS → Option (Int × Int × Int × List Int × List Int × List Int × List Int × List Int)
  | ⟨[(4, .ptr 0 0), (5, .ptr 1 0), (6, .ptr 2 0), (7, .ptr 3 0), (8, .ptr 4 0), (9, .fn 94 [.ptr 4 0]), (10, .int .i64 t10), (17, .int .i64 t17), (20, .int .i64 t20)], [(0, ([.ints .u64 4 b0], 24, .norm)), (1, ([.ints .u64 4 b1], 24, .norm)), (2, ([.ints .u64 8 b2], 78, .norm)), (3, ([.ints .u64 8 b3], 78, .norm)), (4, ([.ints .u64 16 b4], 80, .norm))], 5⟩ => some (t10, t17, t20, b0, b1, b2, b3, b4)
  | _ => none
def f36.s2.o0 (y : Int × List Int × List Int × List Int × List Int × List Int) : VS := ⟨[(4, .ptr 0 0), (5, .ptr 1 0), (6, .ptr 2 0), (7, .ptr 3 0), (8, .ptr 4 0), (9, .fn 94 [.ptr 4 0]), (17, .int .i64 y.1)], [(0, ([.ints .u64 4 y.2.1], 24, .norm)), (1, ([.ints .u64 4 y.2.2.1], 24, .norm)), (2, ([.ints .u64 8 y.2.2.2.1], 78, .norm)), (3, ([.ints .u64 8 y.2.2.2.2.1], 78, .norm)), (4, ([.ints .u64 16 y.2.2.2.2.2], 80, .norm))], 5⟩
def f36.s2.des : ∀ α : Type, (Int × List Int × List Int × List Int × List Int × List Int) → (Ex → VS → Option α) → Option α := (des1 (.exit 2) f36.s2.o0)
def f36.s2.out : Int × List Int × List Int × List Int × List Int × List Int → Ex × VS := (fun y => (.exit 2, f36.s2.o0 y))
theorem f36.s2.desOK : ∀ α y (k : Ex → VS → Option α), f36.s2.des α y k = k (f36.s2.out y).1 (f36.s2.out y).2 := (fun _ _ _ => rfl)
def f36.s2.inY : Ex → VS → Option (Int × List Int × List Int × List Int × List Int × List Int)
  | .exit 2, ⟨[(4, .ptr 0 0), (5, .ptr 1 0), (6, .ptr 2 0), (7, .ptr 3 0), (8, .ptr 4 0), (9, .fn 94 [.ptr 4 0]), (17, .int .i64 t17)], [(0, ([.ints .u64 4 b0], 24, .norm)), (1, ([.ints .u64 4 b1], 24, .norm)), (2, ([.ints .u64 8 b2], 78, .norm)), (3, ([.ints .u64 8 b3], 78, .norm)), (4, ([.ints .u64 16 b4], 80, .norm))], 5⟩ => some (t17, b0, b1, b2, b3, b4)
  | _, _ => none
def f36.s0t (K : Nat) (rec : Int × List Int × List Int × List Int × List Int × List Int → Option (List Int × List Int × List Int)) (t17 : Int) (b0 : List Int) (b1 : List Int) (b2 : List Int) (b3 : List Int) (b4 : List Int) : Option (List Int × List Int × List Int) :=
  bif (decide (t17 < 8)) then
    (iter (f36.s2 K) K (t17, t17, 0, b0, b1, b2, b3, b4)).bind fun y13 =>
    rec ((IntKind.wrap .i64 (y13.1 + 1)), y13.2.1, y13.2.2.1, y13.2.2.2.1, y13.2.2.2.2.1, y13.2.2.2.2.2)
  else
    some (b0, b1, b4)
def f36.s0 (K : Nat) (rec : Int × List Int × List Int × List Int × List Int × List Int → Option (List Int × List Int × List Int)) (x : Int × List Int × List Int × List Int × List Int × List Int) : Option (List Int × List Int × List Int) := f36.s0t K rec x.1 x.2.1 x.2.2.1 x.2.2.2.1 x.2.2.2.2.1 x.2.2.2.2.2
noncomputable def f36.s0.b : Code := (findLoop 0 f36.c).getD .skip
def f36.s0.h : Hint := { lv := [4, 5, 6, 7, 8, 9, 17] }
def f36.s0.ho : Hint := { lv := [4, 5, 8] }
def f36.s0.shp (x : Int × List Int × List Int × List Int × List Int × List Int) : VS := ⟨[(4, .ptr 0 0), (5, .ptr 1 0), (6, .ptr 2 0), (7, .ptr 3 0), (8, .ptr 4 0), (9, .fn 94 [.ptr 4 0]), (17, .int .i64 x.1)], [(0, ([.ints .u64 4 x.2.1], 24, .norm)), (1, ([.ints .u64 4 x.2.2.1], 24, .norm)), (2, ([.ints .u64 8 x.2.2.2.1], 78, .norm)), (3, ([.ints .u64 8 x.2.2.2.2.1], 78, .norm)), (4, ([.ints .u64 16 x.2.2.2.2.2], 80, .norm))], 5⟩
def f36.s0.inX : VS → Option (Int × List Int × List Int × List Int × List Int × List Int)
  | ⟨[(4, .ptr 0 0), (5, .ptr 1 0), (6, .ptr 2 0), (7, .ptr 3 0), (8, .ptr 4 0), (9, .fn 94 [.ptr 4 0]), (17, .int .i64 t17)], [(0, ([.ints .u64 4 b0], 24, .norm)), (1, ([.ints .u64 4 b1], 24, .norm)), (2, ([.ints .u64 8 b2], 78, .norm)), (3, ([.ints .u64 8 b3], 78, .norm)), (4, ([.ints .u64 16 b4], 80, .norm))], 5⟩ => some (t17, b0, b1, b2, b3, b4)
  | _ => none
def f36.s0.o0 (y : List Int × List Int × List Int) : VS := ⟨[(4, .ptr 0 0), (5, .ptr 1 0), (8, .ptr 2 0)], [(0, ([.ints .u64 4 y.1], 24, .norm)), (1, ([.ints .u64 4 y.2.1], 24, .norm)), (2, ([.ints .u64 16 y.2.2], 80, .norm))], 3⟩
def f36.s0.des : ∀ α : Type, (List Int × List Int × List Int) → (Ex → VS → Option α) → Option α := (des1 (.exit 0) f36.s0.o0)
def f36.s0.out : List Int × List Int × List Int → Ex × VS := (fun y => (.exit 0, f36.s0.o0 y))
theorem f36.s0.desOK : ∀ α y (k : Ex → VS → Option α), f36.s0.des α y k = k (f36.s0.out y).1 (f36.s0.out y).2 := (fun _ _ _ => rfl)
def f36.s0.inY : Ex → VS → Option (List Int × List Int × List Int)
  | .exit 0, ⟨[(4, .ptr 0 0), (5, .ptr 1 0), (8, .ptr 2 0)], [(0, ([.ints .u64 4 b0], 24, .norm)), (1, ([.ints .u64 4 b1], 24, .norm)), (2, ([.ints .u64 16 b2], 80, .norm))], 3⟩ => some (b0, b1, b2)
  | _, _ => none
def f36.lp (K : Nat) : Nat → Option (Hint × Summ) := tabLp [(2, f36.s2.h, summOf (iter (f36.s2 K) K) f36.s2.inX f36.s2.des), (0, f36.s0.h, summOf (iter (f36.s0 K) K) f36.s0.inX f36.s0.des)]
noncomputable def f36.tab (K : Nat) : List (Nat × Entry) := [(92, (f92.E K)), (94, (f94.E K)), (93, (f93.E K))]
theorem f36.tabOK (K : Nat) : SpecOK Try.prog (tabSp (f36.tab K)) := tab_ok ((tab_cons (f92.ok K) (tab_cons (f94.ok K) (tab_cons (f93.ok K) tab_nil))))
theorem f36.s2.eq (K : Nat) (rec : Int × Int × Int × List Int × List Int × List Int × List Int × List Int → Option (Int × List Int × List Int × List Int × List Int × List Int)) (x : Int × Int × Int × List Int × List Int × List Int × List Int × List Int) : f36.s2 K rec x = roundL (getA tys) (tabSp (f36.tab K)) 43 0 (f36.lp K) 400 f36.s2.b f36.s2.h f36.s2.ho f36.s2.shp f36.s2.inX f36.s2.inY rec x := by kernel_rfl
theorem f36.s2.lok (K : Nat) : LoopsOK Try.prog 43 0 (f36.lp K) f36.s2.b := loops_ok (by
  have h : loopsIn (f36.lp K) f36.s2.b = [] := by kernel_rfl
  rw [h]; simp)
theorem f36.s2.ok (K : Nat) : SummOK Try.prog 43 0 (summOf (iter (f36.s2 K) K) f36.s2.inX f36.s2.des) f36.s2.b :=
  loop_ok mix tys_ok (f36.tabOK K) (h := f36.s2.h) (ho := f36.s2.ho) (shp := f36.s2.shp) (inX := f36.s2.inX) (des := f36.s2.des) (out := f36.s2.out) (inY := f36.s2.inY) (fuel := 400)
    (by intro st x h; unfold f36.s2.inX at h; split at h <;> simp at h; subst h; rfl)
    (by intro e st y h; unfold f36.s2.inY at h; split at h <;> simp at h <;> subst h <;> rfl)
    f36.s2.desOK (f36.s2.lok K) (f36.s2 K) (f36.s2.eq K) K
theorem f36.s0.eq (K : Nat) (rec : Int × List Int × List Int × List Int × List Int × List Int → Option (List Int × List Int × List Int)) (x : Int × List Int × List Int × List Int × List Int × List Int) : f36.s0 K rec x = roundL (getA tys) (tabSp (f36.tab K)) 43 0 (f36.lp K) 400 f36.s0.b f36.s0.h f36.s0.ho f36.s0.shp f36.s0.inX f36.s0.inY rec x := by kernel_rfl
theorem f36.s0.lok (K : Nat) : LoopsOK Try.prog 43 0 (f36.lp K) f36.s0.b := loops_ok (by
  have h : loopsIn (f36.lp K) f36.s0.b = [(2, f36.s2.b)] := by kernel_rfl
  rw [h]
  intro p hp
  simp only [List.mem_cons, List.not_mem_nil, or_false] at hp
  rcases hp with rfl
  · exact ⟨_, rfl, (f36.s2.ok K)⟩)
theorem f36.s0.ok (K : Nat) : SummOK Try.prog 43 0 (summOf (iter (f36.s0 K) K) f36.s0.inX f36.s0.des) f36.s0.b :=
  loop_ok mix tys_ok (f36.tabOK K) (h := f36.s0.h) (ho := f36.s0.ho) (shp := f36.s0.shp) (inX := f36.s0.inX) (des := f36.s0.des) (out := f36.s0.out) (inY := f36.s0.inY) (fuel := 400)
    (by intro st x h; unfold f36.s0.inX at h; split at h <;> simp at h; subst h; rfl)
    (by intro e st y h; unfold f36.s0.inY at h; split at h <;> simp at h <;> subst h <;> rfl)
    f36.s0.desOK (f36.s0.lok K) (f36.s0 K) (f36.s0.eq K) K
theorem f36.loops (K : Nat) : LoopsOK Try.prog 43 0 (f36.lp K) f36.c := loops_ok (by
  have h : loopsIn (f36.lp K) f36.c = [(0, f36.s0.b), (2, f36.s2.b)] := by kernel_rfl
  rw [h]
  intro p hp
  simp only [List.mem_cons, List.not_mem_nil, or_false] at hp
  rcases hp with rfl | rfl
  · exact ⟨_, rfl, (f36.s0.ok K)⟩
  · exact ⟨_, rfl, (f36.s2.ok K)⟩)
def f36.T (K : Nat) (a0 : List Int) (a1 : List Int) : Option (List Int × List Int) :=
  (f92.F K a0).bind fun y1 =>
  (f92.F K a1).bind fun y2 =>
  (iter (f36.s0 K) K (0, [0, 0, 0, 0], [0, 0, 0, 0], y1, y2, [0, 0, 0, 0, 0, 0, 0, 0, 0, 0, 0, 0, 0, 0, 0, 0])).bind fun y15 =>
  (f93.F K (List.take 8 (List.drop 0 y15.2.2))).bind fun y17 =>
  (f93.F K (List.take 8 (List.drop 8 y15.2.2))).bind fun y19 =>
  some (y17, y19)
def f36.F (K : Nat) (x : List Int × List Int) : Option (List Int × List Int) := f36.T K x.1 x.2
def f36.av (x : List Int × List Int) : List VV := [.agg [.ints .u64 4 x.1], .agg [.ints .u64 4 x.2]]
def f36.bl (_x : List Int × List Int) : List (Nat × Blk) := []
def f36.inA : VS → Option (List Int × List Int)
  | ⟨[(0, .agg [.ints .u64 4 a0]), (1, .agg [.ints .u64 4 a1])], [], 0⟩ => some (a0, a1)
  | _ => none
def f36.o0 (y : List Int × List Int) : VS := ⟨[(0, .tup [.agg [.ints .u64 4 y.1], .agg [.ints .u64 4 y.2]])], [], 0⟩
def f36.des : ∀ α : Type, (List Int × List Int) → (VS → Option α) → Option α := (dv1 f36.o0)
def f36.out : List Int × List Int → VS := f36.o0
def f36.inR : VS → Option (List Int × List Int)
  | ⟨[(0, .tup [.agg [.ints .u64 4 y_0], .agg [.ints .u64 4 y_1]])], [], 0⟩ => some (y_0, y_1)
  | _ => none
noncomputable def f36.E (K : Nat) : Entry := genE 0 f36.inA (f36.F K) f36.des
theorem f36.eq (K : Nat) (x : List Int × List Int) : f36.F K x = xrun (getA tys) (tabSp (f36.tab K)) Try.f36.ntmps 0 (f36.lp K) 400 f36.c ⟨initL 0 (f36.av x), f36.bl x, 0⟩ (contF (getA tys) 0 Try.f36.results.toList f36.inR) := by kernel_rfl
theorem f36.ok (K : Nat) : EntryOK Try.prog 36 (f36.E K) :=
  gen_ok mix tys_ok (f36.tabOK K) Try.func36 (by kernel_rfl : Try.f36.body = some f36.c) (by kernel_rfl) (f36.loops K) (av := f36.av) (bl := f36.bl) (out := f36.out) (fuel := 400)
    (by intro s x h; unfold f36.inA at h; split at h <;> simp at h; subst h; rfl) (fun _ => Nat.le_of_ble_eq_true rfl)
    (by intro s y h; unfold f36.inR at h; split at h <;> simp at h <;> subst h <;> rfl) (fun _ _ _ => rfl) (f36.eq K)
end Go.Proofs

namespace Go.Proofs
open Go.VM
end Go.Proofs

namespace Go.Proofs
open Go.VM
end Go.Proofs

namespace Go.Proofs
open Go.VM
end Go.Proofs

namespace Go.Proofs
open Go.VM
noncomputable def f38.c : Code := bodyOf Try.f38
def f38.s2t (_K : Nat) (rec : Int × Int × List Int × Int × List Int × Int × List Int × List Int → Option (Int × List Int × Int × List Int × List Int)) (t7 : Int) (t11 : Int) (t27 : List Int) (t28 : Int) (t49 : List Int) (t50 : Int) (b0 : List Int) (b1 : List Int) : Option (Int × List Int × Int × List Int × List Int) :=
  bif (decide (t50 < 2)) then
    bif decide (0 ≤ t50 ∧ t50 < 2) then
      bif (decide ((IntKind.wrap .i64 (t11 + t50)) ≥ 0)) then
        bif (decide ((IntKind.wrap .i64 (t11 + t50)) < 8)) then
          let v24 := IntKind.wrap .i64 (t11 + t50)
          bif decide (0 ≤ v24 ∧ v24 < 8) then
            bif decide (0 ≤ v24 ∧ v24 < 8) then
              rec (t7, t11, t27, t28, t49, (IntKind.wrap .i64 (t50 + 1)), b0, (setD b1 (Int.toNat v24) (bits .or .u64 (List.getD b1 (Int.toNat v24) 0) (List.getD t49 (Int.toNat t50) 0))))
            else
              none
          else
            none
        else
          rec (t7, t11, t27, t28, t49, (IntKind.wrap .i64 (t50 + 1)), b0, b1)
      else
        rec (t7, t11, t27, t28, t49, (IntKind.wrap .i64 (t50 + 1)), b0, b1)
    else
      none
  else
    some (t7, t27, t28, b0, b1)
def f38.s2 (K : Nat) (rec : Int × Int × List Int × Int × List Int × Int × List Int × List Int → Option (Int × List Int × Int × List Int × List Int)) (x : Int × Int × List Int × Int × List Int × Int × List Int × List Int) : Option (Int × List Int × Int × List Int × List Int) := f38.s2t K rec x.1 x.2.1 x.2.2.1 x.2.2.2.1 x.2.2.2.2.1 x.2.2.2.2.2.1 x.2.2.2.2.2.2.1 x.2.2.2.2.2.2.2
noncomputable def f38.s2.b : Code := (findLoop 2 f38.c).getD .skip
def f38.s2.h : Hint := { lv := [4, 6, 7, 11, 27, 28, 49, 50] }
def f38.s2.ho : Hint := { lv := [4, 6, 7, 27, 28] }
def f38.s2.shp (x : Int × Int × List Int × Int × List Int × Int × List Int × List Int) : VS := ⟨[(4, .ptr 0 0), (6, .ptr 1 0), (7, .int .i64 x.1), (11, .int .i64 x.2.1), (27, .agg [.ints .u64 8 x.2.2.1]), (28, .int .i64 x.2.2.2.1), (49, .agg [.ints .u64 2 x.2.2.2.2.1]), (50, .int .i64 x.2.2.2.2.2.1)], [(0, ([.ints .u64 4 x.2.2.2.2.2.2.1], 24, .norm)), (1, ([.ints .u64 8 x.2.2.2.2.2.2.2], 78, .norm))], 2⟩
def f38.s2.inX : VS → Option (Int × Int × List Int × Int × List Int × Int × List Int × List Int)
  | ⟨[(4, .ptr 0 0), (6, .ptr 1 0), (7, .int .i64 t7), (11, .int .i64 t11), (27, .agg [.ints .u64 8 t27]), (28, .int .i64 t28), (49, .agg [.ints .u64 2 t49]), (50, .int .i64 t50)], [(0, ([.ints .u64 4 b0], 24, .norm)), (1, ([.ints .u64 8 b1], 78, .norm))], 2⟩ => some (t7, t11, t27, t28, t49, t50, b0, b1)
  | _ => none
def f38.s2.o0 (y : Int × List Int × Int × List Int × List Int) : VS := ⟨[(4, .ptr 0 0), (6, .ptr 1 0), (7, .int .i64 y.1), (27, .agg [.ints .u64 8 y.2.1]), (28, .int .i64 y.2.2.1)], [(0, ([.ints .u64 4 y.2.2.2.1], 24, .norm)), (1, ([.ints .u64 8 y.2.2.2.2], 78, .norm))], 2⟩
def f38.s2.des : ∀ α : Type, (Int × List Int × Int × List Int × List Int) → (Ex → VS → Option α) → Option α := (des1 (.exit 2) f38.s2.o0)
def f38.s2.out : Int × List Int × Int × List Int × List Int → Ex × VS := (fun y => (.exit 2, f38.s2.o0 y))
theorem f38.s2.desOK : ∀ α y (k : Ex → VS → Option α), f38.s2.des α y k = k (f38.s2.out y).1 (f38.s2.out y).2 := (fun _ _ _ => rfl)
def f38.s2.inY : Ex → VS → Option (Int × List Int × Int × List Int × List Int)
  | .exit 2, ⟨[(4, .ptr 0 0), (6, .ptr 1 0), (7, .int .i64 t7), (27, .agg [.ints .u64 8 t27]), (28, .int .i64 t28)], [(0, ([.ints .u64 4 b0], 24, .norm)), (1, ([.ints .u64 8 b1], 78, .norm))], 2⟩ => some (t7, t27, t28, b0, b1)
  | _, _ => none
def f38.s0t (K : Nat) (rec : Int × List Int × Int × List Int × List Int → Option (List Int × List Int)) (t7 : Int) (t27 : List Int) (t28 : Int) (b0 : List Int) (b1 : List Int) : Option (List Int × List Int) :=
  bif (decide (t28 < 8)) then
    bif decide (0 ≤ t28 ∧ t28 < 8) then
      let v8 := List.getD t27 (Int.toNat t28) 0
      let v10 := IntKind.wrap .i64 ((IntKind.wrap .i64 (t28 * 32)) + t7)
      let v13 := Int.tmod v10 32
      bif decide (0 ≤ v13) then
        bif decide (0 ≤ v13) then
          (iter (f38.s2 K) K (t7, (IntKind.wrap .i64 ((IntKind.wrap .i64 (Int.tdiv v10 32)) - 8)), t27, t28, [(bits .and .u64 (shiftI .shl .u64 v8 v13) 4294967295), (Int.fdiv (shiftI .shl .u64 v8 v13) (2 ^ 32))], 0, b0, b1)).bind fun y33 =>
          rec (y33.1, y33.2.1, (IntKind.wrap .i64 (y33.2.2.1 + 1)), y33.2.2.2.1, y33.2.2.2.2)
        else
          none
      else
        none
    else
      none
  else
    some (b0, b1)
def f38.s0 (K : Nat) (rec : Int × List Int × Int × List Int × List Int → Option (List Int × List Int)) (x : Int × List Int × Int × List Int × List Int) : Option (List Int × List Int) := f38.s0t K rec x.1 x.2.1 x.2.2.1 x.2.2.2.1 x.2.2.2.2
noncomputable def f38.s0.b : Code := (findLoop 0 f38.c).getD .skip
def f38.s0.h : Hint := { lv := [4, 6, 7, 27, 28] }
def f38.s0.ho : Hint := { lv := [4, 6] }
def f38.s0.shp (x : Int × List Int × Int × List Int × List Int) : VS := ⟨[(4, .ptr 0 0), (6, .ptr 1 0), (7, .int .i64 x.1), (27, .agg [.ints .u64 8 x.2.1]), (28, .int .i64 x.2.2.1)], [(0, ([.ints .u64 4 x.2.2.2.1], 24, .norm)), (1, ([.ints .u64 8 x.2.2.2.2], 78, .norm))], 2⟩
def f38.s0.inX : VS → Option (Int × List Int × Int × List Int × List Int)
  | ⟨[(4, .ptr 0 0), (6, .ptr 1 0), (7, .int .i64 t7), (27, .agg [.ints .u64 8 t27]), (28, .int .i64 t28)], [(0, ([.ints .u64 4 b0], 24, .norm)), (1, ([.ints .u64 8 b1], 78, .norm))], 2⟩ => some (t7, t27, t28, b0, b1)
  | _ => none
def f38.s0.o0 (y : List Int × List Int) : VS := ⟨[(4, .ptr 0 0), (6, .ptr 1 0)], [(0, ([.ints .u64 4 y.1], 24, .norm)), (1, ([.ints .u64 8 y.2], 78, .norm))], 2⟩
def f38.s0.des : ∀ α : Type, (List Int × List Int) → (Ex → VS → Option α) → Option α := (des1 (.exit 0) f38.s0.o0)
def f38.s0.out : List Int × List Int → Ex × VS := (fun y => (.exit 0, f38.s0.o0 y))
theorem f38.s0.desOK : ∀ α y (k : Ex → VS → Option α), f38.s0.des α y k = k (f38.s0.out y).1 (f38.s0.out y).2 := (fun _ _ _ => rfl)
def f38.s0.inY : Ex → VS → Option (List Int × List Int)
  | .exit 0, ⟨[(4, .ptr 0 0), (6, .ptr 1 0)], [(0, ([.ints .u64 4 b0], 24, .norm)), (1, ([.ints .u64 8 b1], 78, .norm))], 2⟩ => some (b0, b1)
  | _, _ => none
def f38.lp (K : Nat) : Nat → Option (Hint × Summ) := tabLp [(2, f38.s2.h, summOf (iter (f38.s2 K) K) f38.s2.inX f38.s2.des), (0, f38.s0.h, summOf (iter (f38.s0 K) K) f38.s0.inX f38.s0.des)]
noncomputable def f38.tab (K : Nat) : List (Nat × Entry) := [(92, (f92.E K)), (93, (f93.E K))]
theorem f38.tabOK (K : Nat) : SpecOK Try.prog (tabSp (f38.tab K)) := tab_ok ((tab_cons (f92.ok K) (tab_cons (f93.ok K) tab_nil)))
theorem f38.s2.eq (K : Nat) (rec : Int × Int × List Int × Int × List Int × Int × List Int × List Int → Option (Int × List Int × Int × List Int × List Int)) (x : Int × Int × List Int × Int × List Int × Int × List Int × List Int) : f38.s2 K rec x = roundL (getA tys) (tabSp (f38.tab K)) 76 0 (f38.lp K) 400 f38.s2.b f38.s2.h f38.s2.ho f38.s2.shp f38.s2.inX f38.s2.inY rec x := by kernel_rfl
theorem f38.s2.lok (K : Nat) : LoopsOK Try.prog 76 0 (f38.lp K) f38.s2.b := loops_ok (by
  have h : loopsIn (f38.lp K) f38.s2.b = [] := by kernel_rfl
  rw [h]; simp)
theorem f38.s2.ok (K : Nat) : SummOK Try.prog 76 0 (summOf (iter (f38.s2 K) K) f38.s2.inX f38.s2.des) f38.s2.b :=
  loop_ok mix tys_ok (f38.tabOK K) (h := f38.s2.h) (ho := f38.s2.ho) (shp := f38.s2.shp) (inX := f38.s2.inX) (des := f38.s2.des) (out := f38.s2.out) (inY := f38.s2.inY) (fuel := 400)
    (by intro st x h; unfold f38.s2.inX at h; split at h <;> simp at h; subst h; rfl)
    (by intro e st y h; unfold f38.s2.inY at h; split at h <;> simp at h <;> subst h <;> rfl)
    f38.s2.desOK (f38.s2.lok K) (f38.s2 K) (f38.s2.eq K) K
theorem f38.s0.eq (K : Nat) (rec : Int × List Int × Int × List Int × List Int → Option (List Int × List Int)) (x : Int × List Int × Int × List Int × List Int) : f38.s0 K rec x = roundL (getA tys) (tabSp (f38.tab K)) 76 0 (f38.lp K) 400 f38.s0.b f38.s0.h f38.s0.ho f38.s0.shp f38.s0.inX f38.s0.inY rec x := by kernel_rfl
theorem f38.s0.lok (K : Nat) : LoopsOK Try.prog 76 0 (f38.lp K) f38.s0.b := loops_ok (by
  have h : loopsIn (f38.lp K) f38.s0.b = [(2, f38.s2.b)] := by kernel_rfl
  rw [h]
  intro p hp
  simp only [List.mem_cons, List.not_mem_nil, or_false] at hp
  rcases hp with rfl
  · exact ⟨_, rfl, (f38.s2.ok K)⟩)
theorem f38.s0.ok (K : Nat) : SummOK Try.prog 76 0 (summOf (iter (f38.s0 K) K) f38.s0.inX f38.s0.des) f38.s0.b :=
  loop_ok mix tys_ok (f38.tabOK K) (h := f38.s0.h) (ho := f38.s0.ho) (shp := f38.s0.shp) (inX := f38.s0.inX) (des := f38.s0.des) (out := f38.s0.out) (inY := f38.s0.inY) (fuel := 400)
    (by intro st x h; unfold f38.s0.inX at h; split at h <;> simp at h; subst h; rfl)
    (by intro e st y h; unfold f38.s0.inY at h; split at h <;> simp at h <;> subst h <;> rfl)
    f38.s0.desOK (f38.s0.lok K) (f38.s0 K) (f38.s0.eq K) K
theorem f38.loops (K : Nat) : LoopsOK Try.prog 76 0 (f38.lp K) f38.c := loops_ok (by
  have h : loopsIn (f38.lp K) f38.c = [(0, f38.s0.b), (2, f38.s2.b)] := by kernel_rfl
  rw [h]
  intro p hp
  simp only [List.mem_cons, List.not_mem_nil, or_false] at hp
  rcases hp with rfl | rfl
  · exact ⟨_, rfl, (f38.s0.ok K)⟩
  · exact ⟨_, rfl, (f38.s2.ok K)⟩)
def f38.T (K : Nat) (a0 : List Int) (a1 : Int) : Option (List Int) :=
  (f92.F K a0).bind fun y1 =>
  bif (decide (a1 ≤ (-256))) then
    (f93.F K [0, 0, 0, 0, 0, 0, 0, 0]).bind fun y3 =>
    some y3
  else
    bif (decide (a1 ≥ 256)) then
      (f93.F K [0, 0, 0, 0, 0, 0, 0, 0]).bind fun y5 =>
      some y5
    else
      (iter (f38.s0 K) K ((IntKind.wrap .i64 (a1 + 256)), y1, 0, [0, 0, 0, 0], [0, 0, 0, 0, 0, 0, 0, 0])).bind fun y35 =>
      (f93.F K y35.2).bind fun y36 =>
      some y36
def f38.F (K : Nat) (x : List Int × Int) : Option (List Int) := f38.T K x.1 x.2
def f38.av (x : List Int × Int) : List VV := [.agg [.ints .u64 4 x.1], .int .i64 x.2]
def f38.bl (_x : List Int × Int) : List (Nat × Blk) := []
def f38.inA : VS → Option (List Int × Int)
  | ⟨[(0, .agg [.ints .u64 4 a0]), (1, .int .i64 a1)], [], 0⟩ => some (a0, a1)
  | _ => none
def f38.o0 (y : List Int) : VS := ⟨[(0, .agg [.ints .u64 4 y])], [], 0⟩
def f38.des : ∀ α : Type, (List Int) → (VS → Option α) → Option α := (dv1 f38.o0)
def f38.out : List Int → VS := f38.o0
def f38.inR : VS → Option (List Int)
  | ⟨[(0, .agg [.ints .u64 4 y])], [], 0⟩ => some y
  | _ => none
noncomputable def f38.E (K : Nat) : Entry := genE 0 f38.inA (f38.F K) f38.des
theorem f38.eq (K : Nat) (x : List Int × Int) : f38.F K x = xrun (getA tys) (tabSp (f38.tab K)) Try.f38.ntmps 0 (f38.lp K) 400 f38.c ⟨initL 0 (f38.av x), f38.bl x, 0⟩ (contF (getA tys) 0 Try.f38.results.toList f38.inR) := by kernel_rfl
theorem f38.ok (K : Nat) : EntryOK Try.prog 38 (f38.E K) :=
  gen_ok mix tys_ok (f38.tabOK K) Try.func38 (by kernel_rfl : Try.f38.body = some f38.c) (by kernel_rfl) (f38.loops K) (av := f38.av) (bl := f38.bl) (out := f38.out) (fuel := 400)
    (by intro s x h; unfold f38.inA at h; split at h <;> simp at h; subst h; rfl) (fun _ => Nat.le_of_ble_eq_true rfl)
    (by intro s y h; unfold f38.inR at h; split at h <;> simp at h <;> subst h <;> rfl) (fun _ _ _ => rfl) (f38.eq K)
end Go.Proofs

namespace Go.Proofs
open Go.VM
end Go.Proofs

namespace Go.Proofs
open Go.VM
noncomputable def f40.c : Code := bodyOf Try.f40
def f40.lp (_ : Nat) : Nat → Option (Hint × Summ) := fun _ => none
noncomputable def f40.tab (K : Nat) : List (Nat × Entry) := [(92, (f92.E K))]
theorem f40.tabOK (K : Nat) : SpecOK Try.prog (tabSp (f40.tab K)) := tab_ok ((tab_cons (f92.ok K) tab_nil))
theorem f40.loops (K : Nat) : LoopsOK Try.prog 17 0 (f40.lp K) f40.c := loops_ok (by
  have h : loopsIn (f40.lp K) f40.c = [] := by kernel_rfl
  rw [h]; simp)
def f40.T (K : Nat) (a0 : List Int) (a1 : Int) : Option (Int) :=
  bif (decide ((IntKind.wrap .u64 a1) ≥ 256)) then
    some (0)
  else
    (f92.F K a0).bind fun y3 =>
    let v4 := IntKind.wrap .i64 (Int.tdiv a1 32)
    bif decide (0 ≤ v4 ∧ v4 < 8) then
      let v6 := Int.tmod a1 32
      bif decide (0 ≤ v6) then
        some (bits .and .u64 (shiftI .shr .u64 (List.getD y3 (Int.toNat v4) 0) v6) 1)
      else
        none
    else
      none
def f40.F (K : Nat) (x : List Int × Int) : Option (Int) := f40.T K x.1 x.2
def f40.av (x : List Int × Int) : List VV := [.agg [.ints .u64 4 x.1], .int .i64 x.2]
def f40.bl (_x : List Int × Int) : List (Nat × Blk) := []
def f40.inA : VS → Option (List Int × Int)
  | ⟨[(0, .agg [.ints .u64 4 a0]), (1, .int .i64 a1)], [], 0⟩ => some (a0, a1)
  | _ => none
def f40.o0 (y : Int) : VS := ⟨[(0, .int .u64 y)], [], 0⟩
def f40.des : ∀ α : Type, Int → (VS → Option α) → Option α := (dv1 f40.o0)
def f40.out : Int → VS := f40.o0
def f40.inR : VS → Option (Int)
  | ⟨[(0, .int .u64 y)], [], 0⟩ => some y
  | _ => none
noncomputable def f40.E (K : Nat) : Entry := genE 0 f40.inA (f40.F K) f40.des
theorem f40.eq (K : Nat) (x : List Int × Int) : f40.F K x = xrun (getA tys) (tabSp (f40.tab K)) Try.f40.ntmps 0 (f40.lp K) 400 f40.c ⟨initL 0 (f40.av x), f40.bl x, 0⟩ (contF (getA tys) 0 Try.f40.results.toList f40.inR) := by kernel_rfl
theorem f40.ok (K : Nat) : EntryOK Try.prog 40 (f40.E K) :=
  gen_ok mix tys_ok (f40.tabOK K) Try.func40 (by kernel_rfl : Try.f40.body = some f40.c) (by kernel_rfl) (f40.loops K) (av := f40.av) (bl := f40.bl) (out := f40.out) (fuel := 400)
    (by intro s x h; unfold f40.inA at h; split at h <;> simp at h; subst h; rfl) (fun _ => Nat.le_of_ble_eq_true rfl)
    (by intro s y h; unfold f40.inR at h; split at h <;> simp at h <;> subst h <;> rfl) (fun _ _ _ => rfl) (f40.eq K)
end Go.Proofs

namespace Go.Proofs
open Go.VM
noncomputable def f42.c : Code := bodyOf Try.f42
def f42.s2t (_K : Nat) (rec : Int × Int × Int × Int × List Int × Int → Option (Int × List Int × Int)) (t2 : Int) (t3 : Int) (t4 : Int) (t5 : Int) (t7 : List Int) (t8 : Int) : Option (Int × List Int × Int) :=
  bif decide (0 ≤ t5) then
    bif (decide ((shiftI .shr .u64 t4 t5) > 0)) then
      rec ((IntKind.wrap .i64 ((IntKind.wrap .i64 ((IntKind.wrap .i64 (32 * t3)) + t5)) + 1)), t3, t4, (IntKind.wrap .i64 (t5 + 1)), t7, t8)
    else
      some (t2, t7, t8)
  else
    none
def f42.s2 (K : Nat) (rec : Int × Int × Int × Int × List Int × Int → Option (Int × List Int × Int)) (x : Int × Int × Int × Int × List Int × Int) : Option (Int × List Int × Int) := f42.s2t K rec x.1 x.2.1 x.2.2.1 x.2.2.2.1 x.2.2.2.2.1 x.2.2.2.2.2
noncomputable def f42.s2.b : Code := (findLoop 2 f42.c).getD .skip
def f42.s2.h : Hint := { lv := [2, 3, 4, 5, 7, 8] }
def f42.s2.ho : Hint := { lv := [2, 7, 8] }
def f42.s2.shp (x : Int × Int × Int × Int × List Int × Int) : VS := ⟨[(2, .int .i64 x.1), (3, .int .i64 x.2.1), (4, .int .u64 x.2.2.1), (5, .int .i64 x.2.2.2.1), (7, .agg [.ints .u64 8 x.2.2.2.2.1]), (8, .int .i64 x.2.2.2.2.2)], [], 0⟩
def f42.s2.inX : VS → Option (Int × Int × Int × Int × List Int × Int)
  | ⟨[(2, .int .i64 t2), (3, .int .i64 t3), (4, .int .u64 t4), (5, .int .i64 t5), (7, .agg [.ints .u64 8 t7]), (8, .int .i64 t8)], [], 0⟩ => some (t2, t3, t4, t5, t7, t8)
  | _ => none
def f42.s2.o0 (y : Int × List Int × Int) : VS := ⟨[(2, .int .i64 y.1), (7, .agg [.ints .u64 8 y.2.1]), (8, .int .i64 y.2.2)], [], 0⟩
def f42.s2.des : ∀ α : Type, (Int × List Int × Int) → (Ex → VS → Option α) → Option α := (des1 (.exit 2) f42.s2.o0)
def f42.s2.out : Int × List Int × Int → Ex × VS := (fun y => (.exit 2, f42.s2.o0 y))
theorem f42.s2.desOK : ∀ α y (k : Ex → VS → Option α), f42.s2.des α y k = k (f42.s2.out y).1 (f42.s2.out y).2 := (fun _ _ _ => rfl)
def f42.s2.inY : Ex → VS → Option (Int × List Int × Int)
  | .exit 2, ⟨[(2, .int .i64 t2), (7, .agg [.ints .u64 8 t7]), (8, .int .i64 t8)], [], 0⟩ => some (t2, t7, t8)
  | _, _ => none
def f42.s0t (K : Nat) (rec : Int × List Int × Int → Option (Int)) (t2 : Int) (t7 : List Int) (t8 : Int) : Option (Int) :=
  bif (decide (t8 < 8)) then
    bif decide (0 ≤ t8 ∧ t8 < 8) then
      (iter (f42.s2 K) K (t2, t8, (List.getD t7 (Int.toNat t8) 0), 0, t7, t8)).bind fun y10 =>
      rec (y10.1, y10.2.1, (IntKind.wrap .i64 (y10.2.2 + 1)))
    else
      none
  else
    some t2
def f42.s0 (K : Nat) (rec : Int × List Int × Int → Option (Int)) (x : Int × List Int × Int) : Option (Int) := f42.s0t K rec x.1 x.2.1 x.2.2
noncomputable def f42.s0.b : Code := (findLoop 0 f42.c).getD .skip
def f42.s0.h : Hint := { lv := [2, 7, 8] }
def f42.s0.ho : Hint := { lv := [2] }
def f42.s0.shp (x : Int × List Int × Int) : VS := ⟨[(2, .int .i64 x.1), (7, .agg [.ints .u64 8 x.2.1]), (8, .int .i64 x.2.2)], [], 0⟩
def f42.s0.inX : VS → Option (Int × List Int × Int)
  | ⟨[(2, .int .i64 t2), (7, .agg [.ints .u64 8 t7]), (8, .int .i64 t8)], [], 0⟩ => some (t2, t7, t8)
  | _ => none
def f42.s0.o0 (y : Int) : VS := ⟨[(2, .int .i64 y)], [], 0⟩
def f42.s0.des : ∀ α : Type, Int → (Ex → VS → Option α) → Option α := (des1 (.exit 0) f42.s0.o0)
def f42.s0.out : Int → Ex × VS := (fun y => (.exit 0, f42.s0.o0 y))
theorem f42.s0.desOK : ∀ α y (k : Ex → VS → Option α), f42.s0.des α y k = k (f42.s0.out y).1 (f42.s0.out y).2 := (fun _ _ _ => rfl)
def f42.s0.inY : Ex → VS → Option (Int)
  | .exit 0, ⟨[(2, .int .i64 t2)], [], 0⟩ => some t2
  | _, _ => none
def f42.lp (K : Nat) : Nat → Option (Hint × Summ) := tabLp [(2, f42.s2.h, summOf (iter (f42.s2 K) K) f42.s2.inX f42.s2.des), (0, f42.s0.h, summOf (iter (f42.s0 K) K) f42.s0.inX f42.s0.des)]
noncomputable def f42.tab (K : Nat) : List (Nat × Entry) := [(92, (f92.E K))]
theorem f42.tabOK (K : Nat) : SpecOK Try.prog (tabSp (f42.tab K)) := tab_ok ((tab_cons (f92.ok K) tab_nil))
theorem f42.s2.eq (K : Nat) (rec : Int × Int × Int × Int × List Int × Int → Option (Int × List Int × Int)) (x : Int × Int × Int × Int × List Int × Int) : f42.s2 K rec x = roundL (getA tys) (tabSp (f42.tab K)) 25 0 (f42.lp K) 400 f42.s2.b f42.s2.h f42.s2.ho f42.s2.shp f42.s2.inX f42.s2.inY rec x := by kernel_rfl
theorem f42.s2.lok (K : Nat) : LoopsOK Try.prog 25 0 (f42.lp K) f42.s2.b := loops_ok (by
  have h : loopsIn (f42.lp K) f42.s2.b = [] := by kernel_rfl
  rw [h]; simp)
theorem f42.s2.ok (K : Nat) : SummOK Try.prog 25 0 (summOf (iter (f42.s2 K) K) f42.s2.inX f42.s2.des) f42.s2.b :=
  loop_ok mix tys_ok (f42.tabOK K) (h := f42.s2.h) (ho := f42.s2.ho) (shp := f42.s2.shp) (inX := f42.s2.inX) (des := f42.s2.des) (out := f42.s2.out) (inY := f42.s2.inY) (fuel := 400)
    (by intro st x h; unfold f42.s2.inX at h; split at h <;> simp at h; subst h; rfl)
    (by intro e st y h; unfold f42.s2.inY at h; split at h <;> simp at h <;> subst h <;> rfl)
    f42.s2.desOK (f42.s2.lok K) (f42.s2 K) (f42.s2.eq K) K
theorem f42.s0.eq (K : Nat) (rec : Int × List Int × Int → Option (Int)) (x : Int × List Int × Int) : f42.s0 K rec x = roundL (getA tys) (tabSp (f42.tab K)) 25 0 (f42.lp K) 400 f42.s0.b f42.s0.h f42.s0.ho f42.s0.shp f42.s0.inX f42.s0.inY rec x := by kernel_rfl
theorem f42.s0.lok (K : Nat) : LoopsOK Try.prog 25 0 (f42.lp K) f42.s0.b := loops_ok (by
  have h : loopsIn (f42.lp K) f42.s0.b = [(2, f42.s2.b)] := by kernel_rfl
  rw [h]
  intro p hp
  simp only [List.mem_cons, List.not_mem_nil, or_false] at hp
  rcases hp with rfl
  · exact ⟨_, rfl, (f42.s2.ok K)⟩)
theorem f42.s0.ok (K : Nat) : SummOK Try.prog 25 0 (summOf (iter (f42.s0 K) K) f42.s0.inX f42.s0.des) f42.s0.b :=
  loop_ok mix tys_ok (f42.tabOK K) (h := f42.s0.h) (ho := f42.s0.ho) (shp := f42.s0.shp) (inX := f42.s0.inX) (des := f42.s0.des) (out := f42.s0.out) (inY := f42.s0.inY) (fuel := 400)
    (by intro st x h; unfold f42.s0.inX at h; split at h <;> simp at h; subst h; rfl)
    (by intro e st y h; unfold f42.s0.inY at h; split at h <;> simp at h <;> subst h <;> rfl)
    f42.s0.desOK (f42.s0.lok K) (f42.s0 K) (f42.s0.eq K) K
theorem f42.loops (K : Nat) : LoopsOK Try.prog 25 0 (f42.lp K) f42.c := loops_ok (by
  have h : loopsIn (f42.lp K) f42.c = [(0, f42.s0.b), (2, f42.s2.b)] := by kernel_rfl
  rw [h]
  intro p hp
  simp only [List.mem_cons, List.not_mem_nil, or_false] at hp
  rcases hp with rfl | rfl
  · exact ⟨_, rfl, (f42.s0.ok K)⟩
  · exact ⟨_, rfl, (f42.s2.ok K)⟩)
def f42.T (K : Nat) (a0 : List Int) : Option (Int) :=
  (f92.F K a0).bind fun y1 =>
  (iter (f42.s0 K) K (0, y1, 0)).bind fun y12 =>
  some y12
def f42.F (K : Nat) (x : List Int) : Option (Int) := f42.T K x
def f42.av (x : List Int) : List VV := [.agg [.ints .u64 4 x]]
def f42.bl (_x : List Int) : List (Nat × Blk) := []
def f42.inA : VS → Option (List Int)
  | ⟨[(0, .agg [.ints .u64 4 a0])], [], 0⟩ => some a0
  | _ => none
def f42.o0 (y : Int) : VS := ⟨[(0, .int .i64 y)], [], 0⟩
def f42.des : ∀ α : Type, Int → (VS → Option α) → Option α := (dv1 f42.o0)
def f42.out : Int → VS := f42.o0
def f42.inR : VS → Option (Int)
  | ⟨[(0, .int .i64 y)], [], 0⟩ => some y
  | _ => none
noncomputable def f42.E (K : Nat) : Entry := genE 0 f42.inA (f42.F K) f42.des
theorem f42.eq (K : Nat) (x : List Int) : f42.F K x = xrun (getA tys) (tabSp (f42.tab K)) Try.f42.ntmps 0 (f42.lp K) 400 f42.c ⟨initL 0 (f42.av x), f42.bl x, 0⟩ (contF (getA tys) 0 Try.f42.results.toList f42.inR) := by kernel_rfl
theorem f42.ok (K : Nat) : EntryOK Try.prog 42 (f42.E K) :=
  gen_ok mix tys_ok (f42.tabOK K) Try.func42 (by kernel_rfl : Try.f42.body = some f42.c) (by kernel_rfl) (f42.loops K) (av := f42.av) (bl := f42.bl) (out := f42.out) (fuel := 400)
    (by intro s x h; unfold f42.inA at h; split at h <;> simp at h; subst h; rfl) (fun _ => Nat.le_of_ble_eq_true rfl)
    (by intro s y h; unfold f42.inR at h; split at h <;> simp at h <;> subst h <;> rfl) (fun _ _ _ => rfl) (f42.eq K)
end Go.Proofs

namespace Go.Proofs
open Go.VM
end Go.Proofs

namespace Go.Proofs
open Go.VM
noncomputable def f44.c : Code := bodyOf Try.f44
def f44.s0t (_K : Nat) (rec : Int × List Int × List Int → Option (Int × List Int × List Int)) (t7 : Int) (b0 : List Int) (b1 : List Int) : Option (Int × List Int × List Int) :=
  bif decide (0 ≤ t7 ∧ t7 < 8) then
    bif decide (0 ≤ t7 ∧ t7 < 8) then
      bif ((List.getD b0 (Int.toNat t7) 0) == (List.getD b1 (Int.toNat t7) 0)) then
        rec ((IntKind.wrap .i64 (t7 - 1)), b0, b1)
      else
        some (t7, b0, b1)
    else
      none
  else
    none
def f44.s0 (K : Nat) (rec : Int × List Int × List Int → Option (Int × List Int × List Int)) (x : Int × List Int × List Int) : Option (Int × List Int × List Int) := f44.s0t K rec x.1 x.2.1 x.2.2
noncomputable def f44.s0.b : Code := (findLoop 0 f44.c).getD .skip
def f44.s0.h : Hint := { lv := [5, 6, 7] }
def f44.s0.ho : Hint := { lv := [5, 6, 7] }
def f44.s0.shp (x : Int × List Int × List Int) : VS := ⟨[(5, .ptr 0 0), (6, .ptr 1 0), (7, .int .i64 x.1)], [(0, ([.ints .u64 8 x.2.1], 78, .norm)), (1, ([.ints .u64 8 x.2.2], 78, .norm))], 2⟩
def f44.s0.inX : VS → Option (Int × List Int × List Int)
  | ⟨[(5, .ptr 0 0), (6, .ptr 1 0), (7, .int .i64 t7)], [(0, ([.ints .u64 8 b0], 78, .norm)), (1, ([.ints .u64 8 b1], 78, .norm))], 2⟩ => some (t7, b0, b1)
  | _ => none
def f44.s0.o0 (y : Int × List Int × List Int) : VS := ⟨[(5, .ptr 0 0), (6, .ptr 1 0), (7, .int .i64 y.1)], [(0, ([.ints .u64 8 y.2.1], 78, .norm)), (1, ([.ints .u64 8 y.2.2], 78, .norm))], 2⟩
def f44.s0.des : ∀ α : Type, (Int × List Int × List Int) → (Ex → VS → Option α) → Option α := (des1 (.exit 0) f44.s0.o0)
def f44.s0.out : Int × List Int × List Int → Ex × VS := (fun y => (.exit 0, f44.s0.o0 y))
theorem f44.s0.desOK : ∀ α y (k : Ex → VS → Option α), f44.s0.des α y k = k (f44.s0.out y).1 (f44.s0.out y).2 := (fun _ _ _ => rfl)
def f44.s0.inY : Ex → VS → Option (Int × List Int × List Int)
  | .exit 0, ⟨[(5, .ptr 0 0), (6, .ptr 1 0), (7, .int .i64 t7)], [(0, ([.ints .u64 8 b0], 78, .norm)), (1, ([.ints .u64 8 b1], 78, .norm))], 2⟩ => some (t7, b0, b1)
  | _, _ => none
def f44.lp (K : Nat) : Nat → Option (Hint × Summ) := tabLp [(0, f44.s0.h, summOf (iter (f44.s0 K) K) f44.s0.inX f44.s0.des)]
noncomputable def f44.tab (K : Nat) : List (Nat × Entry) := [(92, (f92.E K))]
theorem f44.tabOK (K : Nat) : SpecOK Try.prog (tabSp (f44.tab K)) := tab_ok ((tab_cons (f92.ok K) tab_nil))
theorem f44.s0.eq (K : Nat) (rec : Int × List Int × List Int → Option (Int × List Int × List Int)) (x : Int × List Int × List Int) : f44.s0 K rec x = roundL (getA tys) (tabSp (f44.tab K)) 31 0 (f44.lp K) 400 f44.s0.b f44.s0.h f44.s0.ho f44.s0.shp f44.s0.inX f44.s0.inY rec x := by kernel_rfl
theorem f44.s0.lok (K : Nat) : LoopsOK Try.prog 31 0 (f44.lp K) f44.s0.b := loops_ok (by
  have h : loopsIn (f44.lp K) f44.s0.b = [] := by kernel_rfl
  rw [h]; simp)
theorem f44.s0.ok (K : Nat) : SummOK Try.prog 31 0 (summOf (iter (f44.s0 K) K) f44.s0.inX f44.s0.des) f44.s0.b :=
  loop_ok mix tys_ok (f44.tabOK K) (h := f44.s0.h) (ho := f44.s0.ho) (shp := f44.s0.shp) (inX := f44.s0.inX) (des := f44.s0.des) (out := f44.s0.out) (inY := f44.s0.inY) (fuel := 400)
    (by intro st x h; unfold f44.s0.inX at h; split at h <;> simp at h; subst h; rfl)
    (by intro e st y h; unfold f44.s0.inY at h; split at h <;> simp at h <;> subst h <;> rfl)
    f44.s0.desOK (f44.s0.lok K) (f44.s0 K) (f44.s0.eq K) K
theorem f44.loops (K : Nat) : LoopsOK Try.prog 31 0 (f44.lp K) f44.c := loops_ok (by
  have h : loopsIn (f44.lp K) f44.c = [(0, f44.s0.b)] := by kernel_rfl
  rw [h]
  intro p hp
  simp only [List.mem_cons, List.not_mem_nil, or_false] at hp
  rcases hp with rfl
  · exact ⟨_, rfl, (f44.s0.ok K)⟩)
def f44.T (K : Nat) (a0 : List Int) (a1 : List Int) : Option (Int) :=
  (f92.F K a0).bind fun y1 =>
  (f92.F K a1).bind fun y2 =>
  bif (eqL 8 y1 y2 && true) then
    some (0)
  else
    (iter (f44.s0 K) K (7, y1, y2)).bind fun y9 =>
    bif decide (0 ≤ y9.1 ∧ y9.1 < 8) then
      bif decide (0 ≤ y9.1 ∧ y9.1 < 8) then
        bif (decide ((List.getD y9.2.1 (Int.toNat y9.1) 0) < (List.getD y9.2.2 (Int.toNat y9.1) 0))) then
          some (-1)
        else
          some (1)
      else
        none
    else
      none
def f44.F (K : Nat) (x : List Int × List Int) : Option (Int) := f44.T K x.1 x.2
def f44.av (x : List Int × List Int) : List VV := [.agg [.ints .u64 4 x.1], .agg [.ints .u64 4 x.2]]
def f44.bl (_x : List Int × List Int) : List (Nat × Blk) := []
def f44.inA : VS → Option (List Int × List Int)
  | ⟨[(0, .agg [.ints .u64 4 a0]), (1, .agg [.ints .u64 4 a1])], [], 0⟩ => some (a0, a1)
  | _ => none
def f44.o0 (y : Int) : VS := ⟨[(0, .int .i64 y)], [], 0⟩
def f44.des : ∀ α : Type, Int → (VS → Option α) → Option α := (dv1 f44.o0)
def f44.out : Int → VS := f44.o0
def f44.inR : VS → Option (Int)
  | ⟨[(0, .int .i64 y)], [], 0⟩ => some y
  | _ => none
noncomputable def f44.E (K : Nat) : Entry := genE 0 f44.inA (f44.F K) f44.des
theorem f44.eq (K : Nat) (x : List Int × List Int) : f44.F K x = xrun (getA tys) (tabSp (f44.tab K)) Try.f44.ntmps 0 (f44.lp K) 400 f44.c ⟨initL 0 (f44.av x), f44.bl x, 0⟩ (contF (getA tys) 0 Try.f44.results.toList f44.inR) := by kernel_rfl
theorem f44.ok (K : Nat) : EntryOK Try.prog 44 (f44.E K) :=
  gen_ok mix tys_ok (f44.tabOK K) Try.func44 (by kernel_rfl : Try.f44.body = some f44.c) (by kernel_rfl) (f44.loops K) (av := f44.av) (bl := f44.bl) (out := f44.out) (fuel := 400)
    (by intro s x h; unfold f44.inA at h; split at h <;> simp at h; subst h; rfl) (fun _ => Nat.le_of_ble_eq_true rfl)
    (by intro s y h; unfold f44.inR at h; split at h <;> simp at h <;> subst h <;> rfl) (fun _ _ _ => rfl) (f44.eq K)
end Go.Proofs

namespace Go.Proofs
open Go.VM
end Go.Proofs

namespace Go.Proofs
open Go.VM
noncomputable def f46.c : Code := bodyOf Try.f46
def f46.lp (_ : Nat) : Nat → Option (Hint × Summ) := fun _ => none
noncomputable def f46.tab (_K : Nat) : List (Nat × Entry) := []
theorem f46.tabOK (K : Nat) : SpecOK Try.prog (tabSp (f46.tab K)) := tab_ok ( tab_nil)
theorem f46.loops (K : Nat) : LoopsOK Try.prog 6 0 (f46.lp K) f46.c := loops_ok (by
  have h : loopsIn (f46.lp K) f46.c = [] := by kernel_rfl
  rw [h]; simp)
def f46.T (_K : Nat) (a0 : Int) : Option (List Int) :=
  some ([a0, 0, 0, 0])
def f46.F (K : Nat) (x : Int) : Option (List Int) := f46.T K x
def f46.av (x : Int) : List VV := [.int .u64 x]
def f46.bl (_x : Int) : List (Nat × Blk) := []
def f46.inA : VS → Option (Int)
  | ⟨[(0, .int .u64 a0)], [], 0⟩ => some a0
  | _ => none
def f46.o0 (y : List Int) : VS := ⟨[(0, .agg [.ints .u64 4 y])], [], 0⟩
def f46.des : ∀ α : Type, (List Int) → (VS → Option α) → Option α := (dv1 f46.o0)
def f46.out : List Int → VS := f46.o0
def f46.inR : VS → Option (List Int)
  | ⟨[(0, .agg [.ints .u64 4 y])], [], 0⟩ => some y
  | _ => none
noncomputable def f46.E (K : Nat) : Entry := genE 0 f46.inA (f46.F K) f46.des
theorem f46.eq (K : Nat) (x : Int) : f46.F K x = xrun (getA tys) (tabSp (f46.tab K)) Try.f46.ntmps 0 (f46.lp K) 400 f46.c ⟨initL 0 (f46.av x), f46.bl x, 0⟩ (contF (getA tys) 0 Try.f46.results.toList f46.inR) := by kernel_rfl
theorem f46.ok (K : Nat) : EntryOK Try.prog 46 (f46.E K) :=
  gen_ok mix tys_ok (f46.tabOK K) Try.func46 (by kernel_rfl : Try.f46.body = some f46.c) (by kernel_rfl) (f46.loops K) (av := f46.av) (bl := f46.bl) (out := f46.out) (fuel := 400)
    (by intro s x h; unfold f46.inA at h; split at h <;> simp at h; subst h; rfl) (fun _ => Nat.le_of_ble_eq_true rfl)
    (by intro s y h; unfold f46.inR at h; split at h <;> simp at h <;> subst h <;> rfl) (fun _ _ _ => rfl) (f46.eq K)
end Go.Proofs

namespace Go.Proofs
open Go.VM
end Go.Proofs

namespace Go.Proofs
open Go.VM
end Go.Proofs

namespace Go.Proofs
open Go.VM
end Go.Proofs

namespace Go.Proofs
open Go.VM
end Go.Proofs

namespace Go.Proofs
open Go.VM
end Go.Proofs

namespace Go.Proofs
open Go.VM
end Go.Proofs

namespace Go.Proofs
open Go.VM
end Go.Proofs

namespace Go.Proofs
open Go.VM
end Go.Proofs

namespace Go.Proofs
open Go.VM
end Go.Proofs

namespace Go.Proofs
open Go.VM
end Go.Proofs

namespace Go.Proofs
open Go.VM
end Go.Proofs
