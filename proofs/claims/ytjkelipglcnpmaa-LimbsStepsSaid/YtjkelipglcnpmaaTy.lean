/- The program's types, as the machine's table has them. -/
import Derived.Test.YtjkelipglcnpmaaProg
import Derived.Test.YtjkelipglcnpmaaVmN
import Derived.KernelRfl
namespace Go.Proofs
open Go.VM
theorem mix : Try.prog.follows .mixedOrders = true := by kernel_rfl
noncomputable def bodyOf (f : Func) : Code := f.body.getD .skip
def ti3 : TI := ⟨1, (Go.TypeDesc.int Go.IntKind.i64), [.int .i64 0], 0, [], false⟩
theorem ty3 : TyOK Try.prog 3 ti3 := ⟨by kernel_rfl, by kernel_rfl, rfl, rfl, trivial, trivial, fun h => by cases h⟩
def ti4 : TI := ⟨1, Go.TypeDesc.bool, [.bool false], 0, [], false⟩
theorem ty4 : TyOK Try.prog 4 ti4 := ⟨by kernel_rfl, by kernel_rfl, rfl, rfl, trivial, trivial, fun h => by cases h⟩
def ti5 : TI := ⟨1, (Go.TypeDesc.int Go.IntKind.u8), [.int .u8 0], 0, [], false⟩
theorem ty5 : TyOK Try.prog 5 ti5 := ⟨by kernel_rfl, by kernel_rfl, rfl, rfl, trivial, trivial, fun h => by cases h⟩
def ti22 : TI := ⟨1, (Go.TypeDesc.int Go.IntKind.u64), [.int .u64 0], 0, [], false⟩
theorem ty22 : TyOK Try.prog 22 ti22 := ⟨by kernel_rfl, by kernel_rfl, rfl, rfl, trivial, trivial, fun h => by cases h⟩
def ti24 : TI := ⟨4, .array 4 22, [.ints .u64 4 [0, 0, 0, 0]], 1, [], true⟩
theorem ty24 : TyOK Try.prog 24 ti24 := ⟨by kernel_rfl, by kernel_rfl, rfl, rfl, by show _ = _; kernel_rfl, trivial, fun _ => eqs_arr (e := 22) (by kernel_rfl) (by kernel_rfl) ⟨.u64, by kernel_rfl⟩ (by kernel_rfl)⟩
def ti30 : TI := ⟨1, (Go.TypeDesc.int Go.IntKind.u64), [.int .u64 0], 0, [], false⟩
theorem ty30 : TyOK Try.prog 30 ti30 := ⟨by kernel_rfl, by kernel_rfl, rfl, rfl, trivial, trivial, fun h => by cases h⟩
def ti78 : TI := ⟨8, .array 8 22, [.ints .u64 8 [0, 0, 0, 0, 0, 0, 0, 0]], 1, [], true⟩
theorem ty78 : TyOK Try.prog 78 ti78 := ⟨by kernel_rfl, by kernel_rfl, rfl, rfl, by show _ = _; kernel_rfl, trivial, fun _ => eqs_arr (e := 22) (by kernel_rfl) (by kernel_rfl) ⟨.u64, by kernel_rfl⟩ (by kernel_rfl)⟩
def ti80 : TI := ⟨16, .array 2 78, [.ints .u64 16 [0, 0, 0, 0, 0, 0, 0, 0, 0, 0, 0, 0, 0, 0, 0, 0]], 8, [], false⟩
theorem ty80 : TyOK Try.prog 80 ti80 := ⟨by kernel_rfl, by kernel_rfl, rfl, rfl, by show _ = _; kernel_rfl, trivial, fun h => by cases h⟩
def ti83 : TI := ⟨2, .array 2 22, [.ints .u64 2 [0, 0]], 1, [], true⟩
theorem ty83 : TyOK Try.prog 83 ti83 := ⟨by kernel_rfl, by kernel_rfl, rfl, rfl, by show _ = _; kernel_rfl, trivial, fun _ => eqs_arr (e := 22) (by kernel_rfl) (by kernel_rfl) ⟨.u64, by kernel_rfl⟩ (by kernel_rfl)⟩
def tys : Tab := [(3, ti3), (4, ti4), (5, ti5), (22, ti22), (24, ti24), (30, ti30), (78, ti78), (80, ti80), (83, ti83)]
theorem tys_ok : TyAll Try.prog (getA tys) := tyAll_of (by
  intro p hp
  simp only [tys, List.mem_cons, List.not_mem_nil, or_false] at hp
  rcases hp with rfl | rfl | rfl | rfl | rfl | rfl | rfl | rfl | rfl
  · exact ty3
  · exact ty4
  · exact ty5
  · exact ty22
  · exact ty24
  · exact ty30
  · exact ty78
  · exact ty80
  · exact ty83)
end Go.Proofs
