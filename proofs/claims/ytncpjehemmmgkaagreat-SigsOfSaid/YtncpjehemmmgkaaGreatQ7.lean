/- Plain laws: lemmas that hold with no condition but those that each states. -/
import Derived.Test.YtncpjehemmmgkaaGreatQ2
import Derived.Test.YtncpjehemmmgkaaGreatQ6
import Derived.Test.YtncpjehemmmgkaaGreatQ3
namespace Go.Proofs
open Go.VM
namespace f114
def T (_K : Nat) (a0 : Int) (a1 : Int) : Option (Int) :=
 let v2 := bits .and .u64 (IntKind.wrap .u64 a1) 31
 bif decide (0 ≤ v2) then
 let v4 := IntKind.wrap .u64 (32 - v2)
 bif decide (0 ≤ v4) then
 some (bits .or .u32 (shiftI .shl .u32 a0 v2) (shiftI .shr .u32 a0 v4))
 else
 none
 else
 none
def F (K : Nat) (x : Int × Int) : Option (Int) := T K x.1 x.2
def av (x : Int × Int) : List VV := [.int .u32 x.1, .int .i64 x.2]
def bl (_x : Int × Int) : List (Nat × Blk) := []
def inA : VS → Option (Int × Int)
 | ⟨[(0, .int .u32 a0), (1, .int .i64 a1)], [], 0⟩ => some (a0, a1)
 | _ => none
def o0 (y : Int) : VS := ⟨[(0, .int .u32 y)], [], 0⟩
def inR : VS → Option (Int)
 | ⟨[(0, .int .u32 y)], [], 0⟩ => some y
 | _ => none
noncomputable def E (K : Nat) : Entry := genE 0 inA (F K) (dv1 o0)
theorem ok (K : Nat) : EntryOK Tryz.prog 114 (E K) := gen_ok mix tys_ok (tab_ok ( tab_nil)) Tryz.func114 (c := bodyOf Tryz.f114) (by kernel_rfl) (by kernel_rfl) (loops_none (lp := lpNone) (by kernel_rfl)) (av := av) (bl := bl) (inR := inR) (out := o0) (fuel := 400)
  (by intro s x h; unfold inA at h; split at h <;> simp at h; subst h; rfl) (fun _ => Nat.le_of_ble_eq_true rfl)
  (by intro s y h; unfold inR at h; split at h <;> simp at h <;> subst h <;> rfl) (fun _ _ _ => rfl) (fun _ => by kernel_rfl)
end f114
end Go.Proofs

namespace Go.Proofs
open Go.VM
namespace f111
abbrev Ty0 := Int × Int × Nat × Int × Int × Nat × List Int
abbrev Ty1 := Int × Nat × Nat × List Int
abbrev Ty2 := Int × Nat × List Int
noncomputable def c : Code := bodyOf Tryz.f111
def s0t (K : Nat) (rec : Ty0 → Option (Ty2)) (t0 : Int) (t5 : Int) (t8 : Nat) (t9 : Int) (t10 : Int) (b0_0 : Nat) (b0_1 : List Int) : Option (Ty2) :=
 bif (decide (t10 < t9)) then
 bif decide (0 ≤ t10 ∧ t10 < ((t8 : Nat) : Int)) then
 let v3 := 0 + (Int.toNat t10)
 bif Nat.blt v3 b0_0 then
 (f114.F K (t0, (IntKind.wrap .i64 (0 - (List.getD b0_1 v3 0))))).bind fun y6 =>
 rec (t0, (bits .xor .u32 t5 y6), t8, t9, (IntKind.wrap .i64 (t10 + 1)), b0_0, b0_1)
 else
 none
 else
 none
 else
 some (t5, b0_0, b0_1)
def s0 (K : Nat) (rec : Ty0 → Option (Ty2)) (x : Ty0) : Option (Ty2) := s0t K rec x.1 x.2.1 x.2.2.1 x.2.2.2.1 x.2.2.2.2.1 x.2.2.2.2.2.1 x.2.2.2.2.2.2
noncomputable def s0.b : Code := (findLoop 0 c).getD .skip
def s0.h : Hint := { lv := [0, 5, 8, 9, 10] }
def s0.ho : Hint := { lv := [5] }
def s0.shp (x : Ty0) : VS := ⟨[(0, .int .u32 x.1), (5, .int .u32 x.2.1), (8, .vw true 0 0 x.2.2.1 1), (9, .int .i64 x.2.2.2.1), (10, .int .i64 x.2.2.2.2.1)], [(0, ([.ints .i64 x.2.2.2.2.2.1 x.2.2.2.2.2.2], 0, .ro))], 2⟩
def s0.inX : VS → Option (Ty0)
 | ⟨[(0, .int .u32 t0), (5, .int .u32 t5), (8, .vw true 0 0 t8 1), (9, .int .i64 t9), (10, .int .i64 t10)], [(0, ([.ints .i64 b0_0 b0_1], 0, .ro))], 2⟩ => some (t0, t5, t8, t9, t10, b0_0, b0_1)
 | _ => none
def s0.o0 (y : Ty2) : VS := ⟨[(5, .int .u32 y.1)], [(0, ([.ints .i64 y.2.1 y.2.2], 0, .ro))], 2⟩
def s0.des : ∀ α : Type, (Ty2) → (Ex → VS → Option α) → Option α := (des1 (.exit 0) s0.o0)
def s0.out : Ty2 → Ex × VS := (fun y => (.exit 0, s0.o0 y))
theorem s0.desOK : ∀ α y (k : Ex → VS → Option α), s0.des α y k = k (s0.out y).1 (s0.out y).2 := (fun _ _ _ => rfl)
def s0.inY : Ex → VS → Option (Ty2)
 | .exit 0, ⟨[(5, .int .u32 t5)], [(0, ([.ints .i64 b0_0 b0_1], 0, .ro))], 2⟩ => some (t5, b0_0, b0_1)
 | _, _ => none
def lp (K : Nat) : Nat → Option (Hint × Summ) := tabLp [(0, s0.h, summOf (iter (s0 K) K) s0.inX s0.des)]
noncomputable def tab (K : Nat) : List (Nat × Entry) := [(114, (f114.E K))]
theorem tabOK (K : Nat) : SpecOK Tryz.prog (tabSp (tab K)) := tab_ok ((tab_cons (f114.ok K) tab_nil))
theorem s0.eq (K : Nat) (rec : Ty0 → Option (Ty2)) (x : Ty0) : s0 K rec x = roundL (getA tys) (tabSp (tab K)) 22 2 (lp K) 400 s0.b s0.h s0.ho s0.shp s0.inX s0.inY rec x := by kernel_rfl
theorem s0.lok (K : Nat) : LoopsOK Tryz.prog 22 2 (lp K) s0.b := loops_ok (by
  have h : loopsIn (lp K) s0.b = [] := by kernel_rfl
  rw [h]; simp)
theorem s0.ok (K : Nat) : SummOK Tryz.prog 22 2 (summOf (iter (s0 K) K) s0.inX s0.des) s0.b :=
  loop_ok mix tys_ok (tabOK K) (h := s0.h) (ho := s0.ho) (shp := s0.shp) (inX := s0.inX) (des := s0.des) (out := s0.out) (inY := s0.inY) (fuel := 400)
    (by intro st x h; unfold s0.inX at h; split at h <;> simp at h; subst h; rfl)
    (by intro e st y h; unfold s0.inY at h; split at h <;> simp at h <;> subst h <;> rfl)
    s0.desOK (s0.lok K) (s0 K) (s0.eq K) K
theorem loops (K : Nat) : LoopsOK Tryz.prog 22 2 (lp K) c := loops_ok (by
  have h : loopsIn (lp K) c = [(0, s0.b)] := by kernel_rfl
  rw [h]
  intro p hp
  simp only [List.mem_cons, List.not_mem_nil, or_false] at hp
  rcases hp with rfl
  · exact ⟨_, rfl, (s0.ok K)⟩)
def T (K : Nat) (a0 : Int) (a1 : Nat) (m0_0 : Nat) (m0_1 : List Int) : Option (Ty2) :=
 (iter (s0 K) K (a0, 0, a1, ((a1 : Nat) : Int), 0, m0_0, m0_1)).bind fun y9 =>
 some (y9.1, y9.2.1, y9.2.2)
def F (K : Nat) (x : Ty1) : Option (Ty2) := T K x.1 x.2.1 x.2.2.1 x.2.2.2
def av (x : Ty1) : List VV := [.int .u32 x.1, .vw true 0 0 x.2.1 1]
def bl (x : Ty1) : List (Nat × Blk) := [(0, ([.ints .i64 x.2.2.1 x.2.2.2], 0, .ro))]
def inA : VS → Option (Ty1)
 | ⟨[(0, .int .u32 a0), (1, .vw true 0 0 a1 1)], [(0, ([.ints .i64 m0_0 m0_1], 0, .ro))], 2⟩ => some (a0, a1, m0_0, m0_1)
 | _ => none
def o0 (y : Ty2) : VS := ⟨[(0, .int .u32 y.1)], [(0, ([.ints .i64 y.2.1 y.2.2], 0, .ro))], 2⟩
def des : ∀ α : Type, (Ty2) → (VS → Option α) → Option α := (dv1 o0)
def out : Ty2 → VS := o0
def inR : VS → Option (Ty2)
 | ⟨[(0, .int .u32 y)], [(0, ([.ints .i64 z0_0 z0_1], 0, .ro))], 2⟩ => some (y, z0_0, z0_1)
 | _ => none
noncomputable def E (K : Nat) : Entry := genE 2 inA (F K) des
theorem eq (K : Nat) (x : Ty1) : F K x = xrun (getA tys) (tabSp (tab K)) Tryz.f111.ntmps 2 (lp K) 400 c ⟨initL 0 (av x), bl x, 2⟩ (contF (getA tys) 2 Tryz.f111.results.toList inR) := by kernel_rfl
theorem ok (K : Nat) : EntryOK Tryz.prog 111 (E K) :=
  gen_ok mix tys_ok (tabOK K) Tryz.func111 (by kernel_rfl : Tryz.f111.body = some c) (by kernel_rfl) (loops K) (av := av) (bl := bl) (out := out) (fuel := 400)
    (by intro s x h; unfold inA at h; split at h <;> simp at h; subst h; rfl) (fun _ => Nat.le_of_ble_eq_true rfl)
    (by intro s y h; unfold inR at h; split at h <;> simp at h <;> subst h <;> rfl) (fun _ _ _ => rfl) (eq K)
end f111
end Go.Proofs

namespace Go.Proofs
open Go.VM
namespace f80
abbrev Ty0 := Int × Int × Nat × List Int × List Int
abbrev Ty1 := Int × Int × Nat × List Int
abbrev Ty2 := Nat × Int × Nat × List Int
abbrev Ty3 := Int × Nat × List Int
noncomputable def c : Code := bodyOf Tryz.f80
def s0t (_K : Nat) (rec : Ty0 → Option (Ty3)) (t4 : Int) (t23 : Int) (b0_0 : Nat) (b0_1 : List Int) (b2 : List Int) : Option (Ty3) :=
 bif (decide (t23 < 8)) then
 bif decide (0 ≤ t23 ∧ t23 < 8) then
 rec ((IntKind.wrap .u64 ((IntKind.wrap .u64 (256 * t4)) + (IntKind.wrap .u64 (List.getD b2 (Int.toNat t23) 0)))), (IntKind.wrap .i64 (t23 + 1)), b0_0, b0_1, b2)
 else
 none
 else
 some (t4, b0_0, b0_1)
def s0 (K : Nat) (rec : Ty0 → Option (Ty3)) (x : Ty0) : Option (Ty3) := s0t K rec x.1 x.2.1 x.2.2.1 x.2.2.2.1 x.2.2.2.2
noncomputable def s0.b : Code := (findLoop 0 c).getD .skip
def s0.h : Hint := { lv := [4, 6, 23] }
def s0.ho : Hint := { lv := [4] }
def s0.shp (x : Ty0) : VS := ⟨[(4, .int .u64 x.1), (6, .ptr 2 0), (23, .int .i64 x.2.1)], [(0, ([.ints .u8 x.2.2.1 x.2.2.2.1], 0, .ro)), (2, ([.ints .u8 8 x.2.2.2.2], 130, .norm))], 3⟩
def s0.inX : VS → Option (Ty0)
 | ⟨[(4, .int .u64 t4), (6, .ptr 2 0), (23, .int .i64 t23)], [(0, ([.ints .u8 b0_0 b0_1], 0, .ro)), (2, ([.ints .u8 8 b2], 130, .norm))], 3⟩ => some (t4, t23, b0_0, b0_1, b2)
 | _ => none
def s0.o0 (y : Ty3) : VS := ⟨[(4, .int .u64 y.1)], [(0, ([.ints .u8 y.2.1 y.2.2], 0, .ro))], 2⟩
def s0.des : ∀ α : Type, (Ty3) → (Ex → VS → Option α) → Option α := (des1 (.exit 0) s0.o0)
def s0.out : Ty3 → Ex × VS := (fun y => (.exit 0, s0.o0 y))
theorem s0.desOK : ∀ α y (k : Ex → VS → Option α), s0.des α y k = k (s0.out y).1 (s0.out y).2 := (fun _ _ _ => rfl)
def s0.inY : Ex → VS → Option (Ty3)
 | .exit 0, ⟨[(4, .int .u64 t4)], [(0, ([.ints .u8 b0_0 b0_1], 0, .ro))], 2⟩ => some (t4, b0_0, b0_1)
 | _, _ => none
def lp (K : Nat) : Nat → Option (Hint × Summ) := tabLp [(0, s0.h, summOf (iter (s0 K) K) s0.inX s0.des)]
noncomputable def tab (_K : Nat) : List (Nat × Entry) := []
theorem tabOK (K : Nat) : SpecOK Tryz.prog (tabSp (tab K)) := tab_ok ( tab_nil)
theorem s0.eq (K : Nat) (rec : Ty0 → Option (Ty3)) (x : Ty0) : s0 K rec x = roundL (getA tys) (tabSp (tab K)) 35 2 (lp K) 400 s0.b s0.h s0.ho s0.shp s0.inX s0.inY rec x := by kernel_rfl
theorem s0.lok (K : Nat) : LoopsOK Tryz.prog 35 2 (lp K) s0.b := loops_ok (by
  have h : loopsIn (lp K) s0.b = [] := by kernel_rfl
  rw [h]; simp)
theorem s0.ok (K : Nat) : SummOK Tryz.prog 35 2 (summOf (iter (s0 K) K) s0.inX s0.des) s0.b :=
  loop_ok mix tys_ok (tabOK K) (h := s0.h) (ho := s0.ho) (shp := s0.shp) (inX := s0.inX) (des := s0.des) (out := s0.out) (inY := s0.inY) (fuel := 400)
    (by intro st x h; unfold s0.inX at h; split at h <;> simp at h; subst h; rfl)
    (by intro e st y h; unfold s0.inY at h; split at h <;> simp at h <;> subst h <;> rfl)
    s0.desOK (s0.lok K) (s0 K) (s0.eq K) K
theorem loops (K : Nat) : LoopsOK Tryz.prog 35 2 (lp K) c := loops_ok (by
  have h : loopsIn (lp K) c = [(0, s0.b)] := by kernel_rfl
  rw [h]
  intro p hp
  simp only [List.mem_cons, List.not_mem_nil, or_false] at hp
  rcases hp with rfl
  · exact ⟨_, rfl, (s0.ok K)⟩)
def T (K : Nat) (a0 : Nat) (a1 : Int) (m0_0 : Nat) (m0_1 : List Int) : Option (Ty1) :=
 bif (decide (a1 < 0)) then
 some (0, 1, m0_0, m0_1)
 else
 bif (decide (a1 > 8)) then
 some (0, 1, m0_0, m0_1)
 else
 bif (decide (((a0 : Nat) : Int) < a1)) then
 some (0, 5, m0_0, m0_1)
 else
 let v5 := IntKind.wrap .i64 (8 - a1)
 bif decide (0 ≤ v5 ∧ v5 ≤ 8) then
 let v6 := bif Nat.beq 8 (Int.toNat v5) then 0 else 0 + (Int.toNat v5)
 let v7 := 8 - (Int.toNat v5)
 bif ((Nat.ble (0 + a0) m0_0 && (Nat.ble (v6 + v7) 8)) && (Nat.beq a0 a0)) then
 (iter (s0 K) K (0, 0, m0_0, m0_1, (spl [0, 0, 0, 0, 0, 0, 0, 0] v6 (Nat.min a0 v7) (subI m0_1 0 a0)))).bind fun y18 =>
 some (y18.1, 0, y18.2.1, y18.2.2)
 else
 none
 else
 none
def F (K : Nat) (x : Ty2) : Option (Ty1) := T K x.1 x.2.1 x.2.2.1 x.2.2.2
def av (x : Ty2) : List VV := [.vw true 0 0 x.1 1, .int .i64 x.2.1]
def bl (x : Ty2) : List (Nat × Blk) := [(0, ([.ints .u8 x.2.2.1 x.2.2.2], 0, .ro))]
def inA : VS → Option (Ty2)
 | ⟨[(0, .vw true 0 0 a0 1), (1, .int .i64 a1)], [(0, ([.ints .u8 m0_0 m0_1], 0, .ro))], 2⟩ => some (a0, a1, m0_0, m0_1)
 | _ => none
def o0 (y : Ty1) : VS := ⟨[(0, .tup [.int .u64 y.1, .int .i64 y.2.1])], [(0, ([.ints .u8 y.2.2.1 y.2.2.2], 0, .ro))], 2⟩
def des : ∀ α : Type, (Ty1) → (VS → Option α) → Option α := (dv1 o0)
def out : Ty1 → VS := o0
def inR : VS → Option (Ty1)
 | ⟨[(0, .tup [.int .u64 y_0, .int .i64 y_1])], [(0, ([.ints .u8 z0_0 z0_1], 0, .ro))], 2⟩ => some (y_0, y_1, z0_0, z0_1)
 | _ => none
noncomputable def E (K : Nat) : Entry := genE 2 inA (F K) des
theorem eq (K : Nat) (x : Ty2) : F K x = xrun (getA tys) (tabSp (tab K)) Tryz.f80.ntmps 2 (lp K) 400 c ⟨initL 0 (av x), bl x, 2⟩ (contF (getA tys) 2 Tryz.f80.results.toList inR) := by kernel_rfl
theorem ok (K : Nat) : EntryOK Tryz.prog 80 (E K) :=
  gen_ok mix tys_ok (tabOK K) Tryz.func80 (by kernel_rfl : Tryz.f80.body = some c) (by kernel_rfl) (loops K) (av := av) (bl := bl) (out := out) (fuel := 400)
    (by intro s x h; unfold inA at h; split at h <;> simp at h; subst h; rfl) (fun _ => Nat.le_of_ble_eq_true rfl)
    (by intro s y h; unfold inR at h; split at h <;> simp at h <;> subst h <;> rfl) (fun _ _ _ => rfl) (eq K)
end f80
end Go.Proofs

namespace Go.Proofs
open Go.VM
namespace f60
abbrev Ty0 := Nat × Int × Int × Nat × List Int × List Int
abbrev Ty1 := Int × Nat × List Int × List Int
abbrev Ty2 := List Int × Int × Nat × List Int
abbrev Ty3 := Nat × Nat × List Int
noncomputable def c : Code := bodyOf Tryz.f60
def s0t (K : Nat) (rec : Ty0 → Option ((Ty1) ⊕ (Ty1))) (t0 : Nat) (t3 : Int) (t6 : Int) (b0_0 : Nat) (b0_1 : List Int) (b2 : List Int) : Option ((Ty1) ⊕ (Ty1)) :=
 bif (decide (t6 < 4)) then
 bif (decide (((t0 : Nat) : Int) < 32)) then
 some (.inl (5, b0_0, b0_1, [0, 0, 0, 0]))
 else
 let v6 := IntKind.wrap .i64 (32 - (IntKind.wrap .i64 (8 * (IntKind.wrap .i64 (t6 + 1)))))
 let v7 := IntKind.wrap .i64 (v6 + 8)
 bif (decide (0 ≤ v7 ∧ v7 ≤ ((t0 : Nat) : Int)) && (decide (0 ≤ v6 ∧ v6 ≤ ((Int.toNat v7 : Nat) : Int)))) then
 let v8 := 0 + (Int.toNat v6)
 let v9 := (Int.toNat v7) - (Int.toNat v6)
 bif ((Nat.ble (v8 + v9) b0_0 && true) && true) then
 (f80.F K (v9, 8, v9, (subI b0_1 v8 v9))).bind fun y10 =>
 bif decide (0 ≤ t6 ∧ t6 < 4) then
 rec (t0, y10.2.1, (IntKind.wrap .i64 (t6 + 1)), b0_0, b0_1, (setD b2 (Int.toNat t6) y10.1))
 else
 none
 else
 none
 else
 none
 else
 some (.inr (t3, b0_0, b0_1, b2))
def s0 (K : Nat) (rec : Ty0 → Option ((Ty1) ⊕ (Ty1))) (x : Ty0) : Option ((Ty1) ⊕ (Ty1)) := s0t K rec x.1 x.2.1 x.2.2.1 x.2.2.2.1 x.2.2.2.2.1 x.2.2.2.2.2
noncomputable def s0.b : Code := (findLoop 0 c).getD .skip
def s0.h : Hint := { lv := [0, 2, 3, 6] }
def s0.ho : Hint := { lv := [2, 3] }
def s0.shp (x : Ty0) : VS := ⟨[(0, .vw true 0 0 x.1 1), (2, .ptr 2 0), (3, .int .i64 x.2.1), (6, .int .i64 x.2.2.1)], [(0, ([.ints .u8 x.2.2.2.1 x.2.2.2.2.1], 0, .ro)), (2, ([.ints .u64 4 x.2.2.2.2.2], 24, .norm))], 3⟩
def s0.inX : VS → Option (Ty0)
 | ⟨[(0, .vw true 0 0 t0 1), (2, .ptr 2 0), (3, .int .i64 t3), (6, .int .i64 t6)], [(0, ([.ints .u8 b0_0 b0_1], 0, .ro)), (2, ([.ints .u64 4 b2], 24, .norm))], 3⟩ => some (t0, t3, t6, b0_0, b0_1, b2)
 | _ => none
def s0.o0 (y : Ty1) : VS := ⟨[(2, .ptr 2 0), (3, .int .i64 y.1)], [(0, ([.ints .u8 y.2.1 y.2.2.1], 0, .ro)), (2, ([.ints .u64 4 y.2.2.2], 24, .norm))], 3⟩
def s0.o1 (y : Ty1) : VS := ⟨[(2, .ptr 2 0), (3, .int .i64 y.1)], [(0, ([.ints .u8 y.2.1 y.2.2.1], 0, .ro)), (2, ([.ints .u64 4 y.2.2.2], 24, .norm))], 3⟩
def s0.des : ∀ α : Type, ((Ty1) ⊕ (Ty1)) → (Ex → VS → Option α) → Option α := (desA (des1 (.ret) s0.o0) (des1 (.exit 0) s0.o1))
def s0.out : (Ty1) ⊕ (Ty1) → Ex × VS := (alt (fun y => (.ret, s0.o0 y)) (fun y => (.exit 0, s0.o1 y)))
theorem s0.desOK : ∀ α y (k : Ex → VS → Option α), s0.des α y k = k (s0.out y).1 (s0.out y).2 := (desA_ok (fun _ _ _ => rfl) (fun _ _ _ => rfl))
def s0.inY : Ex → VS → Option ((Ty1) ⊕ (Ty1))
 | .ret, ⟨[(2, .ptr 2 0), (3, .int .i64 t3)], [(0, ([.ints .u8 b0_0 b0_1], 0, .ro)), (2, ([.ints .u64 4 b2], 24, .norm))], 3⟩ => some (.inl (t3, b0_0, b0_1, b2))
 | .exit 0, ⟨[(2, .ptr 2 0), (3, .int .i64 t3)], [(0, ([.ints .u8 b0_0 b0_1], 0, .ro)), (2, ([.ints .u64 4 b2], 24, .norm))], 3⟩ => some (.inr (t3, b0_0, b0_1, b2))
 | _, _ => none
def lp (K : Nat) : Nat → Option (Hint × Summ) := tabLp [(0, s0.h, summOf (iter (s0 K) K) s0.inX s0.des)]
noncomputable def tab (K : Nat) : List (Nat × Entry) := [(80, (viewE [(0, .u8)] (f80.E K)))]
theorem tabOK (K : Nat) : SpecOK Tryz.prog (tabSp (tab K)) := tab_ok ((tab_cons (view_ok (f80.ok K)) tab_nil))
theorem s0.eq (K : Nat) (rec : Ty0 → Option ((Ty1) ⊕ (Ty1))) (x : Ty0) : s0 K rec x = roundL (getA tys) (tabSp (tab K)) 31 2 (lp K) 400 s0.b s0.h s0.ho s0.shp s0.inX s0.inY rec x := by kernel_rfl
theorem s0.lok (K : Nat) : LoopsOK Tryz.prog 31 2 (lp K) s0.b := loops_ok (by
  have h : loopsIn (lp K) s0.b = [] := by kernel_rfl
  rw [h]; simp)
theorem s0.ok (K : Nat) : SummOK Tryz.prog 31 2 (summOf (iter (s0 K) K) s0.inX s0.des) s0.b :=
  loop_ok mix tys_ok (tabOK K) (h := s0.h) (ho := s0.ho) (shp := s0.shp) (inX := s0.inX) (des := s0.des) (out := s0.out) (inY := s0.inY) (fuel := 400)
    (by intro st x h; unfold s0.inX at h; split at h <;> simp at h; subst h; rfl)
    (by intro e st y h; unfold s0.inY at h; split at h <;> simp at h <;> subst h <;> rfl)
    s0.desOK (s0.lok K) (s0 K) (s0.eq K) K
theorem loops (K : Nat) : LoopsOK Tryz.prog 31 2 (lp K) c := loops_ok (by
  have h : loopsIn (lp K) c = [(0, s0.b)] := by kernel_rfl
  rw [h]
  intro p hp
  simp only [List.mem_cons, List.not_mem_nil, or_false] at hp
  rcases hp with rfl
  · exact ⟨_, rfl, (s0.ok K)⟩)
def T (K : Nat) (a0 : Nat) (m0_0 : Nat) (m0_1 : List Int) : Option (Ty2) :=
 (iter (s0 K) K (a0, 0, 0, m0_0, m0_1, [0, 0, 0, 0])).bind fun y14 =>
 alt (fun y15 =>
 some (y15.2.2.2, y15.1, y15.2.1, y15.2.2.1)) (fun y16 =>
 some (y16.2.2.2, y16.1, y16.2.1, y16.2.2.1)) y14
def F (K : Nat) (x : Ty3) : Option (Ty2) := T K x.1 x.2.1 x.2.2
def av (x : Ty3) : List VV := [.vw true 0 0 x.1 1]
def bl (x : Ty3) : List (Nat × Blk) := [(0, ([.ints .u8 x.2.1 x.2.2], 0, .ro))]
def inA : VS → Option (Ty3)
 | ⟨[(0, .vw true 0 0 a0 1)], [(0, ([.ints .u8 m0_0 m0_1], 0, .ro))], 2⟩ => some (a0, m0_0, m0_1)
 | _ => none
def o0 (y : Ty2) : VS := ⟨[(0, .tup [.agg [.ints .u64 4 y.1], .int .i64 y.2.1])], [(0, ([.ints .u8 y.2.2.1 y.2.2.2], 0, .ro))], 2⟩
def des : ∀ α : Type, (Ty2) → (VS → Option α) → Option α := (dv1 o0)
def out : Ty2 → VS := o0
def inR : VS → Option (Ty2)
 | ⟨[(0, .tup [.agg [.ints .u64 4 y_0], .int .i64 y_1])], [(0, ([.ints .u8 z0_0 z0_1], 0, .ro))], 2⟩ => some (y_0, y_1, z0_0, z0_1)
 | _ => none
noncomputable def E (K : Nat) : Entry := genE 2 inA (F K) des
theorem eq (K : Nat) (x : Ty3) : F K x = xrun (getA tys) (tabSp (tab K)) Tryz.f60.ntmps 2 (lp K) 400 c ⟨initL 0 (av x), bl x, 2⟩ (contF (getA tys) 2 Tryz.f60.results.toList inR) := by kernel_rfl
theorem ok (K : Nat) : EntryOK Tryz.prog 60 (E K) :=
  gen_ok mix tys_ok (tabOK K) Tryz.func60 (by kernel_rfl : Tryz.f60.body = some c) (by kernel_rfl) (loops K) (av := av) (bl := bl) (out := out) (fuel := 400)
    (by intro s x h; unfold inA at h; split at h <;> simp at h; subst h; rfl) (fun _ => Nat.le_of_ble_eq_true rfl)
    (by intro s y h; unfold inR at h; split at h <;> simp at h <;> subst h <;> rfl) (fun _ _ _ => rfl) (eq K)
end f60
end Go.Proofs

namespace Go.Proofs
open Go.VM
namespace f78
abbrev Ty0 := Nat × Nat × Nat × List Int × Nat × List Int
abbrev Ty1 := Nat × Int × Int × Nat × List Int
def T (K : Nat) (a0 : Nat) (a1 : Int) (a2 : Int) (m0_0 : Nat) (m0_1 : List Int) : Option (Ty0) :=
 bif ((Nat.ble (0 + a0) m0_0 && true) && true) then
 (f57.F K (a0, (maxE 0 (minE 8 a2)), 1, a0, (subI m0_1 0 a0), 1, [a1])).bind fun y2 =>
 some (y2.1, y2.2.1, m0_0, m0_1, y2.2.2.2.2.2.2.1, y2.2.2.2.2.2.2.2)
 else
 none
def F (K : Nat) (x : Ty1) : Option (Ty0) := T K x.1 x.2.1 x.2.2.1 x.2.2.2.1 x.2.2.2.2
def av (x : Ty1) : List VV := [.vw true 0 0 x.1 1, .int .u64 x.2.1, .int .i64 x.2.2.1]
def bl (x : Ty1) : List (Nat × Blk) := [(0, ([.ints .u8 x.2.2.2.1 x.2.2.2.2], 0, .ro))]
def inA : VS → Option (Ty1)
 | ⟨[(0, .vw true 0 0 a0 1), (1, .int .u64 a1), (2, .int .i64 a2)], [(0, ([.ints .u8 m0_0 m0_1], 0, .ro))], 2⟩ => some (a0, a1, a2, m0_0, m0_1)
 | _ => none
def o0 (y : Ty0) : VS := ⟨[(0, .sl 2 0 y.1 y.2.1)], [(0, ([.ints .u8 y.2.2.1 y.2.2.2.1], 0, .ro)), (2, ([.ints .u8 y.2.2.2.2.1 y.2.2.2.2.2], 5, .norm))], 3⟩
def inR : VS → Option (Ty0)
 | ⟨[(0, .sl 2 0 y_0 y_1)], [(0, ([.ints .u8 z0_0 z0_1], 0, .ro)), (2, ([.ints .u8 z2_0 z2_1], 5, .norm))], 3⟩ => some (y_0, y_1, z0_0, z0_1, z2_0, z2_1)
 | _ => none
noncomputable def E (K : Nat) : Entry := genE 2 inA (F K) (dv1 o0)
theorem ok (K : Nat) : EntryOK Tryz.prog 78 (E K) := gen_ok mix tys_ok (sp := tabSp [(57, (viewE [(0, .u8), (2, .u64)] (f57.E K)))]) (tab_ok ((tab_cons (view_ok (f57.ok K)) tab_nil))) Tryz.func78 (c := bodyOf Tryz.f78) (by kernel_rfl) (by kernel_rfl) (loops_none (lp := lpNone) (by kernel_rfl)) (av := av) (bl := bl) (inR := inR) (out := o0) (fuel := 400)
  (by intro s x h; unfold inA at h; split at h <;> simp at h; subst h; rfl) (fun _ => Nat.le_of_ble_eq_true rfl)
  (by intro s y h; unfold inR at h; split at h <;> simp at h <;> subst h <;> rfl) (fun _ _ _ => rfl) (fun _ => by kernel_rfl)
end f78
end Go.Proofs

namespace Go.Proofs
open Go.VM
namespace f39
abbrev Ty0 := Nat × Nat × Nat × List Int × Nat × List Int
abbrev Ty1 := Nat × List Int × Nat × List Int
def T (K : Nat) (a0 : Nat) (a1 : List Int) (m0_0 : Nat) (m0_1 : List Int) : Option (Ty0) :=
 bif ((Nat.ble (0 + a0) m0_0 && true) && true) then
 (f57.F K (a0, 8, 4, a0, (subI m0_1 0 a0), 4, [(List.getD a1 3 0), (List.getD a1 2 0), (List.getD a1 1 0), (List.getD a1 0 0)])).bind fun y5 =>
 some (y5.1, y5.2.1, m0_0, m0_1, y5.2.2.2.2.2.2.1, y5.2.2.2.2.2.2.2)
 else
 none
def F (K : Nat) (x : Ty1) : Option (Ty0) := T K x.1 x.2.1 x.2.2.1 x.2.2.2
def av (x : Ty1) : List VV := [.vw true 0 0 x.1 1, .agg [.ints .u64 4 x.2.1]]
def bl (x : Ty1) : List (Nat × Blk) := [(0, ([.ints .u8 x.2.2.1 x.2.2.2], 0, .ro))]
def inA : VS → Option (Ty1)
 | ⟨[(0, .vw true 0 0 a0 1), (1, .agg [.ints .u64 4 a1])], [(0, ([.ints .u8 m0_0 m0_1], 0, .ro))], 2⟩ => some (a0, a1, m0_0, m0_1)
 | _ => none
def o0 (y : Ty0) : VS := ⟨[(0, .sl 2 0 y.1 y.2.1)], [(0, ([.ints .u8 y.2.2.1 y.2.2.2.1], 0, .ro)), (2, ([.ints .u8 y.2.2.2.2.1 y.2.2.2.2.2], 5, .norm))], 3⟩
def inR : VS → Option (Ty0)
 | ⟨[(0, .sl 2 0 y_0 y_1)], [(0, ([.ints .u8 z0_0 z0_1], 0, .ro)), (2, ([.ints .u8 z2_0 z2_1], 5, .norm))], 3⟩ => some (y_0, y_1, z0_0, z0_1, z2_0, z2_1)
 | _ => none
noncomputable def E (K : Nat) : Entry := genE 2 inA (F K) (dv1 o0)
theorem ok (K : Nat) : EntryOK Tryz.prog 39 (E K) := gen_ok mix tys_ok (sp := tabSp [(57, (viewE [(0, .u8), (2, .u64)] (f57.E K)))]) (tab_ok ((tab_cons (view_ok (f57.ok K)) tab_nil))) Tryz.func39 (c := bodyOf Tryz.f39) (by kernel_rfl) (by kernel_rfl) (loops_none (lp := lpNone) (by kernel_rfl)) (av := av) (bl := bl) (inR := inR) (out := o0) (fuel := 400)
  (by intro s x h; unfold inA at h; split at h <;> simp at h; subst h; rfl) (fun _ => Nat.le_of_ble_eq_true rfl)
  (by intro s y h; unfold inR at h; split at h <;> simp at h <;> subst h <;> rfl) (fun _ _ _ => rfl) (fun _ => by kernel_rfl)
end f39
end Go.Proofs

namespace Go.Proofs
open Go.VM
theorem low_be : ∀ n x : Nat, x < 18446744073709551616 → Rw.low n (x : Int) = be n x
  | 0, _, _ => rfl
  | n + 1, x, h => by
    have e : Rw.nxt (x : Int) = ((x / 256 : Nat) : Int) := by
      rw [Rw.nxt, show (256 : Int) = ((256 : Nat) : Int) from rfl, tdiv_nat, wrap_u _ (by omega) (by omega)]
    rw [Rw.low, e, low_be n (x / 256) (by omega), be, Rw.byt]
    rfl
theorem octets_pad {l : List Int} (h : octets l) (n : Nat) : octets (padT l n) := by
  intro x hx
  simp only [padT, List.mem_map, List.mem_range] at hx
  obtain ⟨i, _, rfl⟩ := hx
  rw [List.getD_eq_getElem?_getD]
  cases e : l[i]? with
  | none => simp
  | some y => exact h y (List.mem_of_getElem? e)
theorem octets_sub {l : List Int} (h : octets l) (i n : Nat) : octets (subI l i n) := by
  intro x hx
  simp only [subI, List.mem_map, List.mem_range] at hx
  obtain ⟨j, _, rfl⟩ := hx
  rw [List.getD_eq_getElem?_getD]
  cases e : l[i + j]? with
  | none => simp
  | some y => exact h y (List.mem_of_getElem? e)
theorem octets_spl {l m : List Int} (h : octets l) (h2 : octets m) (i n : Nat) : octets (spl l i n m) := by
  rw [spl]
  exact octets_append (octets_append (octets_pad h _) (octets_pad h2 _)) fun x hx => h x (List.mem_of_mem_drop hx)
theorem subI_length (l : List Int) (i n : Nat) : (subI l i n).length = n := by simp [subI]
theorem row_flat (e : Nat) : ∀ (xs : List Nat), (∀ x ∈ xs, x < 18446744073709551616) → (xs.map fun x : Nat => (x : Int)).flatMap (Rw.low e) = xs.flatMap (be e)
  | [], _ => rfl
  | x :: xs, h => by
    rw [List.map_cons, List.flatMap_cons, List.flatMap_cons, row_flat e xs fun y hy => h y (List.mem_cons_of_mem _ hy), low_be e x (h x List.mem_cons_self)]
theorem f57.spec (K a e m : Nat) (l : List Int) (xs : List Nat) (hl : l.length = a) (hm : xs.length = m) (hx : ∀ x ∈ xs, x < 18446744073709551616) (he : e ≤ 8) (ha : a + e * m ≤ 140737488355328) (hm2 : m ≤ 1000000000) :
    f57.F K (a, (e : Int), m, a, l, m, xs.map fun x : Nat => (x : Int)) = some (a + e * m, a + e * m, a, l, m, (xs.map fun x : Nat => (x : Int)), a + e * m, l ++ xs.flatMap (be e)) := by
  rw [f57.F]
  simp only [Int.toNat_natCast]
  rw [show Nat.beq a a = true from Nat.beq_refl a, show Nat.beq m m = true from Nat.beq_refl m, decide_eq_true (show (0 : Int) ≤ (e : Int) ∧ (e : Int) ≤ 8 by omega), ble_true ha, ble_true (show m * 8 ≤ 140737488351232 by omega),
    Bool.and_self, Bool.and_self, Bool.and_self, Bool.and_self, cond_t, padT_self l hl, padT_self _ (by simpa using hm), row_flat e xs hx]
theorem f78.spec (K a n x : Nat) (l : List Int) (hl : l.length = a) (hx : x < 18446744073709551616) (hn : n ≤ 8) (ha : a ≤ 1000000000) :
    f78.F K (a, (x : Int), (n : Int), a, l) = some (a + n, a + n, a, l, a + n, l ++ be n x) := by
  have e1 : maxE 0 (minE 8 (n : Int)) = (n : Int) := by
    unfold maxE minE
    rcases Nat.lt_or_ge n 8 with h | h
    · rw [decide_eq_true (show (n : Int) < 8 by omega), cond_t]
      rcases Nat.eq_zero_or_pos n with h0 | h0
      · subst h0; rfl
      · rw [decide_eq_true (show (n : Int) > 0 by omega), cond_t]
    · have : n = 8 := by omega
      subst this; rfl
  have e2 := f57.spec K a n 1 l [x] hl rfl (by simpa using hx) hn (by omega) (by omega)
  simp only [List.map_cons, List.map_nil, List.flatMap_cons, List.flatMap_nil, List.append_nil, Nat.mul_one] at e2
  simp only [f78.F, f78.T]
  rw [Nat.zero_add, ble_true (Nat.le_refl a), Bool.and_self, Bool.and_self, cond_t, e1, subI_self l hl, e2, bind_s]
theorem be_flat4 (A : Nat) (hA : A < 2 ^ 256) : [A / 2 ^ 192 % 2 ^ 64, A / 2 ^ 128 % 2 ^ 64, A / 2 ^ 64 % 2 ^ 64, A % 2 ^ 64].flatMap (be 8) = be 32 A := by
  have q : (256 : Nat) ^ 8 = 2 ^ 64 := by decide
  have h1 : be 32 A = be 24 (A / 2 ^ 64) ++ be 8 A := by rw [show (32 : Nat) = 24 + 8 from rfl, be_add, q]
  have h2 : be 24 (A / 2 ^ 64) = be 16 (A / 2 ^ 128) ++ be 8 (A / 2 ^ 64) := by rw [show (24 : Nat) = 16 + 8 from rfl, be_add, q, Nat.div_div_eq_div_mul, ← Nat.pow_add]
  have h3 : be 16 (A / 2 ^ 128) = be 8 (A / 2 ^ 192) ++ be 8 (A / 2 ^ 128) := by rw [show (16 : Nat) = 8 + 8 from rfl, be_add, q, Nat.div_div_eq_div_mul, ← Nat.pow_add]
  have m : ∀ y, be 8 (y % 2 ^ 64) = be 8 y := fun y => by rw [← q, be_mod]
  simp only [List.flatMap_cons, List.flatMap_nil, List.append_nil, m]
  rw [h1, h2, h3, List.append_assoc, List.append_assoc]
theorem f39.spec (K a A : Nat) (l : List Int) (hl : l.length = a) (hA : A < 2 ^ 256) (ha : a ≤ 1000000000) :
    f39.F K (a, num A, a, l) = some (a + 32, a + 32, a, l, a + 32, l ++ be 32 A) := by
  have e2 := f57.spec K a 8 4 l [A / 2 ^ 192 % 2 ^ 64, A / 2 ^ 128 % 2 ^ 64, A / 2 ^ 64 % 2 ^ 64, A % 2 ^ 64] hl rfl
    (by intro x hx; simp only [List.mem_cons, List.not_mem_nil, or_false] at hx; rcases hx with rfl | rfl | rfl | rfl <;> exact Nat.mod_lt _ (by decide)) (by omega) (by omega) (by omega)
  rw [be_flat4 A hA] at e2
  simp only [List.map_cons, List.map_nil] at e2
  simp only [f39.F, f39.T]
  rw [Nat.zero_add, ble_true (Nat.le_refl a), Bool.and_self, Bool.and_self, cond_t, subI_self l hl, getD_words (by decide : 3 < 4), getD_words (by decide : 2 < 4), getD_words (by decide : 1 < 4), getD_words (by decide : 0 < 4)]
  rw [show 64 * 3 = 192 from rfl, show 64 * 2 = 128 from rfl, show 64 * 1 = 64 from rfl, show 64 * 0 = 0 from rfl, Nat.pow_zero, Nat.div_one]
  rw [show ((8 : Int)) = ((8 : Nat) : Int) from rfl, e2, bind_s]
theorem take_snoc {l : List Int} {i : Nat} (h : i < l.length) : l.take (i + 1) = l.take i ++ [l.getD i 0] := by
  rw [List.take_add_one, List.getD_eq_getElem?_getD, List.getElem?_eq_getElem h]; rfl
theorem tv_zeros : ∀ n, tv (List.replicate n 0) = 0
  | 0 => rfl
  | n + 1 => by rw [List.replicate_succ', tv_snoc, tv_zeros n]; rfl
theorem octets_zeros (n : Nat) : octets (List.replicate n 0) := fun x hx => by rw [List.mem_replicate] at hx; omega
theorem f80.loop (K n : Nat) (l b : List Int) (hb : b.length = 8) (ho : octets b) (hK : 8 < K) : iter (f80.s0 K) K (0, 0, n, l, b) = some (((tv b : Nat) : Int), n, l) := by
  have := iter_for (stp := f80.s0 K) (N := 8) (fun i => (((tv (b.take i) : Nat) : Int), (i : Int), n, l, b)) (y := some (((tv b : Nat) : Int), n, l)) ?_ ?_ hK
  · exact this
  · intro i hi rec
    simp only [f80.s0, f80.s0t]
    have hg := ho (b.getD i 0) (by rw [List.getD_eq_getElem?_getD, List.getElem?_eq_getElem (by omega)]; exact List.getElem_mem _)
    have h1 : tv (b.take i) < 256 ^ i := tv_lt i _ (by simp; omega) fun x hx => ho x (List.mem_of_mem_take hx)
    have h2 : (256 : Nat) ^ i ≤ 256 ^ 7 := Nat.pow_le_pow_right (by decide) (by omega)
    have h3 : (256 : Nat) ^ 7 = 72057594037927936 := by decide
    have e5 : (256 : Int) * ((tv (b.take i) : Nat) : Int) = ((256 * tv (b.take i) : Nat) : Int) := by rw [Int.natCast_mul]; rfl
    rw [decide_eq_true (show (i : Int) < 8 by omega), cond_t, decide_eq_true (show (0 : Int) ≤ (i : Int) ∧ (i : Int) < 8 by omega), cond_t, Int.toNat_natCast, e5, wrap_u ((256 * tv (b.take i) : Nat) : Int) (by omega) (by omega), wrap_u (b.getD i 0) (by omega) (by omega), wrap_u (((256 * tv (b.take i) : Nat) : Int) + b.getD i 0) (by omega) (by omega), wrap_i _ (by omega) (by omega), take_snoc (by omega), tv_snoc]
    congr 2
    omega
  · intro rec
    simp only [f80.s0, f80.s0t]
    rw [List.take_of_length_le (by omega)]
    rfl
theorem f80.spec (K n m : Nat) (l : List Int) (hl : l.length = n) (ho : octets l) (hm : 1 ≤ m) (hm8 : m ≤ 8) (hn : m ≤ n) (hK : 8 < K) : f80.F K (n, (m : Int), n, l) = some (((tv (l.take m) : Nat) : Int), 0, n, l) := by
  simp only [f80.F, f80.T]
  have e : IntKind.wrap .i64 (8 - (m : Int)) = ((8 - m : Nat) : Int) := by rw [wrap_i _ (by omega) (by omega)]; omega
  have e6 : (bif Nat.beq 8 (8 - m) then 0 else 0 + (8 - m)) = 8 - m := by
    rw [show Nat.beq 8 (8 - m) = false from (by rw [← Bool.not_eq_true, Nat.beq_eq]; omega), cond_f, Nat.zero_add]
  have e7 : spl [0, 0, 0, 0, 0, 0, 0, 0] (8 - m) (Nat.min n (8 - (8 - m))) (subI l 0 n) = List.replicate (8 - m) 0 ++ l.take m := by
    have q : Nat.min n (8 - (8 - m)) = m := by show min n _ = m; omega
    rw [q, subI_self l hl, spl, List.drop_of_length_le (by simp; omega), List.append_nil]
    congr 1
    · refine List.ext_getElem? fun i => ?_
      by_cases hi : i < 8 - m
      · have : i < 8 := by omega
        rw [List.getElem?_replicate, if_pos hi]
        simp only [padT, List.getElem?_map, List.getElem?_range hi, Option.map_some]
        congr 1
        match i, this with
        | 0, _ | 1, _ | 2, _ | 3, _ | 4, _ | 5, _ | 6, _ | 7, _ => rfl
      · rw [List.getElem?_eq_none (by simpa [padT] using hi), List.getElem?_eq_none (by simpa using hi)]
    · refine List.ext_getElem? fun i => ?_
      rw [List.getElem?_take]
      by_cases hi : i < m
      · rw [if_pos hi]
        have : i < l.length := by omega
        simp [padT, hi, this]
      · rw [if_neg hi, List.getElem?_eq_none (by simpa [padT] using hi)]
  rw [decide_eq_false (show ¬ (m : Int) < 0 by omega), cond_f, decide_eq_false (show ¬ (m : Int) > 8 by omega), cond_f, decide_eq_false (show ¬ ((n : Nat) : Int) < (m : Int) by omega), cond_f, e, decide_eq_true (show (0 : Int) ≤ ((8 - m : Nat) : Int) ∧ ((8 - m : Nat) : Int) ≤ 8 by omega), cond_t]
  simp only [Int.toNat_natCast]
  rw [e6, e7, Nat.zero_add, ble_true (Nat.le_refl n), ble_true (show 8 - m + (8 - (8 - m)) ≤ 8 by omega), show Nat.beq n n = true from Nat.beq_refl n, Bool.and_self, Bool.and_self, cond_t,
    f80.loop K n l _ (by simp; omega) (octets_append (octets_zeros _) fun x hx => ho x (List.mem_of_mem_take hx)) hK, bind_s, tv_append, tv_zeros, Nat.zero_mul, Nat.zero_add]
theorem mid_of {X Y Z P Q : Nat} (h3 : Y < Q) (h4 : Z < P) : ((X * Q + Y) * P + Z) / P % Q = Y := by
  rw [Nat.mul_comm (X * Q + Y) P, Nat.mul_add_div (by omega), Nat.div_eq_of_lt h4, Nat.add_zero, Nat.mul_comm X Q, Nat.mul_add_mod, Nat.mod_eq_of_lt h3]
theorem f60.spec (K : Nat) (l : List Int) (hl : l.length = 32) (ho : octets l) (hK : 8 < K) : f60.F K (32, 32, l) = some (num (tv l), 0, 32, l) := by
  have hA := tv_lt 32 l hl ho
  simp only [f60.F, f60.T]
  have := iter_for (stp := f60.s0 K) (N := 4) (fun i => (32, 0, (i : Int), 32, l, vec 4 fun j => if j < i then tv l / 2 ^ (64 * j) % 2 ^ 64 else 0)) (y := some (.inr (0, 32, l, num (tv l)))) ?_ ?_ (show 4 < K by omega)
  · rw [show iter (f60.s0 K) K (32, 0, 0, 32, l, [0, 0, 0, 0]) = _ from this, bind_s, altr]
  · intro i hi rec
    simp only [f60.s0, f60.s0t]
    have e6 : IntKind.wrap .i64 (32 - (IntKind.wrap .i64 (8 * (IntKind.wrap .i64 ((i : Int) + 1))))) = ((32 - 8 * (i + 1) : Nat) : Int) := by
      rw [wrap_i ((i : Int) + 1) (by omega) (by omega), wrap_i (8 * ((i : Int) + 1)) (by omega) (by omega), wrap_i _ (by omega) (by omega)]; omega
    have e7 : IntKind.wrap .i64 (((32 - 8 * (i + 1) : Nat) : Int) + 8) = ((32 - 8 * i : Nat) : Int) := by rw [wrap_i _ (by omega) (by omega)]; omega
    have e9 : (32 - 8 * i) - (32 - 8 * (i + 1)) = 8 := by omega
    have ec : subI l (32 - 8 * (i + 1)) 8 = (l.drop (32 - 8 * (i + 1))).take 8 := subI_cut _ _ _ (by omega)
    have es := f80.spec K 8 8 (subI l (32 - 8 * (i + 1)) 8) (subI_length _ _ _) (octets_sub ho _ _) (by omega) (by omega) (by omega) hK
    rw [List.take_of_length_le (by rw [subI_length]; omega)] at es
    have ev : tv (subI l (32 - 8 * (i + 1)) 8) = tv l / 2 ^ (64 * i) % 2 ^ 64 := by
      have h1 : l = l.take (32 - 8 * (i + 1)) ++ ((l.drop (32 - 8 * (i + 1))).take 8 ++ l.drop (32 - 8 * i)) := by
        have : l.drop (32 - 8 * i) = (l.drop (32 - 8 * (i + 1))).drop 8 := by rw [List.drop_drop]; congr 1; omega
        rw [this, List.take_append_drop, List.take_append_drop]
      have h2 : tv l = (tv (l.take (32 - 8 * (i + 1))) * 256 ^ 8 + tv ((l.drop (32 - 8 * (i + 1))).take 8)) * 256 ^ (8 * i) + tv (l.drop (32 - 8 * i)) := by
        conv => lhs; rw [h1]
        rw [← List.append_assoc, tv_append, tv_append]
        have a1 : ((l.drop (32 - 8 * (i + 1))).take 8).length = 8 := by simp; omega
        have a2 : (l.drop (32 - 8 * i)).length = 8 * i := by simp; omega
        rw [a1, a2]
      have h3 : tv ((l.drop (32 - 8 * (i + 1))).take 8) < 256 ^ 8 := tv_lt 8 _ (by simp; omega) fun x hx => ho x (List.mem_of_mem_drop (List.mem_of_mem_take hx))
      have h4 : tv (l.drop (32 - 8 * i)) < 256 ^ (8 * i) := tv_lt _ _ (by simp; omega) fun x hx => ho x (List.mem_of_mem_drop hx)
      rw [ec, h2, show (2 : Nat) ^ (64 * i) = 256 ^ (8 * i) by rw [show (256 : Nat) = 2 ^ 8 from rfl, ← Nat.pow_mul]; congr 1; omega, show (2 : Nat) ^ 64 = 256 ^ 8 from rfl, mid_of h3 h4]
    rw [decide_eq_true (show (i : Int) < 4 by omega), cond_t, decide_eq_false (show ¬ ((32 : Nat) : Int) < 32 by omega), cond_f, e6, e7, decide_eq_true (show (0 : Int) ≤ ((32 - 8 * i : Nat) : Int) ∧ ((32 - 8 * i : Nat) : Int) ≤ ((32 : Nat) : Int) by omega)]
    simp only [Int.toNat_natCast]
    rw [decide_eq_true (show (0 : Int) ≤ ((32 - 8 * (i + 1) : Nat) : Int) ∧ ((32 - 8 * (i + 1) : Nat) : Int) ≤ ((32 - 8 * i : Nat) : Int) by omega), Bool.and_self, cond_t, e9, Nat.zero_add, ble_true (show 32 - 8 * (i + 1) + 8 ≤ 32 by omega), Bool.and_self, Bool.and_self, cond_t,
      show ((8 : Int)) = ((8 : Nat) : Int) from rfl, es, bind_s, decide_eq_true (show (0 : Int) ≤ (i : Int) ∧ (i : Int) < 4 by omega), cond_t, ev, setD_vec hi, wrap_i _ (by omega) (by omega)]
    congr 6
    refine vec_congr fun j hj => ?_
    by_cases h1 : j = i
    · subst h1; rw [if_pos rfl, if_pos (by omega)]
    · rw [if_neg h1]
      by_cases h2 : j < i
      · rw [if_pos h2, if_pos (by omega)]
      · rw [if_neg h2, if_neg (by omega)]
  · intro rec
    simp only [f60.s0, f60.s0t]
    rw [decide_eq_false (show ¬ ((4 : Nat) : Int) < 4 by omega), cond_f]
    congr 5
end Go.Proofs

namespace Go.Proofs
open Go.VM
namespace f109
abbrev Ty0 := List Int × Int × Int × List Int × List Int × Int
abbrev Ty1 := List Int × Int × Int × List Int
def T (_K : Nat) (m0_0 : List Int) (m0_1 : Int) (m0_2 : Int) (m1 : List Int) : Option (Ty0) :=
 some (m0_0, m0_1, m0_2, m1, [0, 0, 0, 0, 0, 0, 0, 0, 0, 0, 0, 0, 0, 0, 0, 0], 0)
def F (K : Nat) (x : Ty1) : Option (Ty0) := T K x.1 x.2.1 x.2.2.1 x.2.2.2
def av (_x : Ty1) : List VV := [.ptr 0 1]
def bl (x : Ty1) : List (Nat × Blk) := [(0, ([.ptr 1 0, .ints .u8 64 x.1, .int .i64 x.2.1, .int .u64 x.2.2.1], 125, .norm)), (1, ([.ints .u32 8 x.2.2.2], 120, .norm))]
def inA : VS → Option (Ty1)
 | ⟨[(0, .ptr 0 1)], [(0, ([.ptr 1 0, .ints .u8 64 m0_0, .int .i64 m0_1, .int .u64 m0_2], 125, .norm)), (1, ([.ints .u32 8 m1], 120, .norm))], 2⟩ => some (m0_0, m0_1, m0_2, m1)
 | _ => none
def o0 (y : Ty0) : VS := ⟨[(0, .fn 113 [.ptr 2 0, .ptr 3 0, .ptr 4 0])], [(0, ([.ptr 1 0, .ints .u8 64 y.1, .int .i64 y.2.1, .int .u64 y.2.2.1], 125, .norm)), (1, ([.ints .u32 8 y.2.2.2.1], 120, .norm)), (2, ([.ints .u32 16 y.2.2.2.2.1], 145, .norm)), (3, ([.int .i64 y.2.2.2.2.2], 3, .norm)), (4, ([.ptr 0 1], 127, .norm))], 5⟩
def inR : VS → Option (Ty0)
 | ⟨[(0, .fn 113 [.ptr 2 0, .ptr 3 0, .ptr 4 0])], [(0, ([.ptr 1 0, .ints .u8 64 z0_0, .int .i64 z0_1, .int .u64 z0_2], 125, .norm)), (1, ([.ints .u32 8 z1], 120, .norm)), (2, ([.ints .u32 16 z2], 145, .norm)), (3, ([.int .i64 z3], 3, .norm)), (4, ([.ptr 0 1], 127, .norm))], 5⟩ => some (z0_0, z0_1, z0_2, z1, z2, z3)
 | _ => none
noncomputable def E (K : Nat) : Entry := genE 2 inA (F K) (dv1 o0)
theorem ok (K : Nat) : EntryOK Tryz.prog 109 (E K) := gen_ok mix tys_ok (tab_ok ( tab_nil)) Tryz.func109 (c := bodyOf Tryz.f109) (by kernel_rfl) (by kernel_rfl) (loops_none (lp := lpNone) (by kernel_rfl)) (av := av) (bl := bl) (inR := inR) (out := o0) (fuel := 400)
  (by intro s x h; unfold inA at h; split at h <;> simp at h; subst h; rfl) (fun _ => Nat.le_of_ble_eq_true rfl)
  (by intro s y h; unfold inR at h; split at h <;> simp at h <;> subst h <;> rfl) (fun _ _ _ => rfl) (fun _ => by kernel_rfl)
end f109
end Go.Proofs

namespace Go.Proofs
open Go.VM
namespace f110
def T (_K : Nat)  : Option (List Int) :=
 some ([1116352408, 1899447441, 3049323471, 3921009573, 961987163, 1508970993, 2453635748, 2870763221, 3624381080, 310598401, 607225278, 1426881987, 1925078388, 2162078206, 2614888103, 3248222580, 3835390401, 4022224774, 264347078, 604807628, 770255983, 1249150122, 1555081692, 1996064986, 2554220882, 2821834349, 2952996808, 3210313671, 3336571891, 3584528711, 113926993, 338241895, 666307205, 773529912, 1294757372, 1396182291, 1695183700, 1986661051, 2177026350, 2456956037, 2730485921, 2820302411, 3259730800, 3345764771, 3516065817, 3600352804, 4094571909, 275423344, 430227734, 506948616, 659060556, 883997877, 958139571, 1322822218, 1537002063, 1747873779, 1955562222, 2024104815, 2227730452, 2361852424, 2428436474, 2756734187, 3204031479, 3329325298])
def F (K : Nat) (_x : Unit) : Option (List Int) := T K
def av (_x : Unit) : List VV := []
def bl (_x : Unit) : List (Nat × Blk) := []
def inA : VS → Option (Unit)
 | ⟨[], [], 0⟩ => some ()
 | _ => none
def o0 (y : List Int) : VS := ⟨[(0, .agg [.ints .u32 64 y])], [], 0⟩
def inR : VS → Option (List Int)
 | ⟨[(0, .agg [.ints .u32 64 y])], [], 0⟩ => some y
 | _ => none
noncomputable def E (K : Nat) : Entry := genE 0 inA (F K) (dv1 o0)
theorem ok (K : Nat) : EntryOK Tryz.prog 110 (E K) := gen_ok mix tys_ok (tab_ok ( tab_nil)) Tryz.func110 (c := bodyOf Tryz.f110) (by kernel_rfl) (by kernel_rfl) (loops_none (lp := lpNone) (by kernel_rfl)) (av := av) (bl := bl) (inR := inR) (out := o0) (fuel := 400)
  (by intro s x h; unfold inA at h; split at h <;> simp at h; rfl) (fun _ => Nat.le_of_ble_eq_true rfl)
  (by intro s y h; unfold inR at h; split at h <;> simp at h <;> subst h <;> rfl) (fun _ _ _ => rfl) (fun _ => by kernel_rfl)
end f110
end Go.Proofs

namespace Go.Proofs
open Go.VM
namespace f113
abbrev Ty0 := Int × List Int × Int × List Int × Int × Int × List Int
abbrev Ty1 := List Int × Int × List Int × Int × Int × List Int
def T (K : Nat) (m0 : List Int) (m1 : Int) (m3_0 : List Int) (m3_1 : Int) (m3_2 : Int) (m4 : List Int) : Option (Ty0) :=
 let v1 := Int.tmod m1 16
 bif decide (0 ≤ v1 ∧ v1 < 16) then
 let v2 := Int.toNat v1
 bif (decide (m1 < 16)) then
 let v4 := IntKind.wrap .i64 (4 * m1)
 bif decide (0 ≤ v4 ∧ v4 ≤ 64) then
 let v5 := bif Nat.beq 64 (Int.toNat v4) then 0 else (Int.toNat v4)
 let v6 := 64 - (Int.toNat v4)
 bif ((Nat.ble (v5 + v6) 64 && (Nat.ble v6 (64 - (Int.toNat v4)))) && true) then
 (f80.F K (v6, 4, v6, (subI m3_0 v5 v6))).bind fun y8 =>
 let v10 := setD m0 v2 (IntKind.wrap .u32 y8.1)
 some ((List.getD v10 v2 0), v10, (IntKind.wrap .i64 (m1 + 1)), m3_0, m3_1, m3_2, m4)
 else
 none
 else
 none
 else
 let v14 := Int.tmod (IntKind.wrap .i64 (m1 + 1)) 16
 bif decide (0 ≤ v14 ∧ v14 < 16) then
 let v16 := List.getD m0 (Int.toNat v14) 0
 let v18 := Int.tmod (IntKind.wrap .i64 (m1 + 14)) 16
 bif decide (0 ≤ v18 ∧ v18 < 16) then
 let v20 := List.getD m0 (Int.toNat v18) 0
 (f111.F K (v16, 2, 2, [7, 18])).bind fun y22 =>
 let v26 := setD m0 v2 (IntKind.wrap .u32 ((List.getD m0 v2 0) + (bits .xor .u32 y22.1 (Int.fdiv v16 (2 ^ 3)))))
 (f111.F K (v20, 2, 2, [17, 19])).bind fun y28 =>
 let v32 := setD v26 v2 (IntKind.wrap .u32 ((List.getD v26 v2 0) + (bits .xor .u32 y28.1 (Int.fdiv v20 (2 ^ 10)))))
 let v35 := Int.tmod (IntKind.wrap .i64 (m1 + 9)) 16
 bif decide (0 ≤ v35 ∧ v35 < 16) then
 let v39 := setD v32 v2 (IntKind.wrap .u32 ((List.getD v32 v2 0) + (List.getD v32 (Int.toNat v35) 0)))
 some ((List.getD v39 v2 0), v39, (IntKind.wrap .i64 (m1 + 1)), m3_0, m3_1, m3_2, m4)
 else
 none
 else
 none
 else
 none
 else
 none
def F (K : Nat) (x : Ty1) : Option (Ty0) := T K x.1 x.2.1 x.2.2.1 x.2.2.2.1 x.2.2.2.2.1 x.2.2.2.2.2
def av (_x : Ty1) : List VV := [.ptr 0 0, .ptr 1 0, .ptr 2 0]
def bl (x : Ty1) : List (Nat × Blk) := [(0, ([.ints .u32 16 x.1], 145, .norm)), (1, ([.int .i64 x.2.1], 3, .norm)), (2, ([.ptr 3 1], 127, .norm)), (3, ([.ptr 4 0, .ints .u8 64 x.2.2.1, .int .i64 x.2.2.2.1, .int .u64 x.2.2.2.2.1], 125, .norm)), (4, ([.ints .u32 8 x.2.2.2.2.2], 120, .norm))]
def inA : VS → Option (Ty1)
 | ⟨[(0, .ptr 0 0), (1, .ptr 1 0), (2, .ptr 2 0)], [(0, ([.ints .u32 16 m0], 145, .norm)), (1, ([.int .i64 m1], 3, .norm)), (2, ([.ptr 3 1], 127, .norm)), (3, ([.ptr 4 0, .ints .u8 64 m3_0, .int .i64 m3_1, .int .u64 m3_2], 125, .norm)), (4, ([.ints .u32 8 m4], 120, .norm))], 5⟩ => some (m0, m1, m3_0, m3_1, m3_2, m4)
 | _ => none
def o0 (y : Ty0) : VS := ⟨[(0, .int .u32 y.1)], [(0, ([.ints .u32 16 y.2.1], 145, .norm)), (1, ([.int .i64 y.2.2.1], 3, .norm)), (2, ([.ptr 3 1], 127, .norm)), (3, ([.ptr 4 0, .ints .u8 64 y.2.2.2.1, .int .i64 y.2.2.2.2.1, .int .u64 y.2.2.2.2.2.1], 125, .norm)), (4, ([.ints .u32 8 y.2.2.2.2.2.2], 120, .norm))], 5⟩
def inR : VS → Option (Ty0)
 | ⟨[(0, .int .u32 y)], [(0, ([.ints .u32 16 z0], 145, .norm)), (1, ([.int .i64 z1], 3, .norm)), (2, ([.ptr 3 1], 127, .norm)), (3, ([.ptr 4 0, .ints .u8 64 z3_0, .int .i64 z3_1, .int .u64 z3_2], 125, .norm)), (4, ([.ints .u32 8 z4], 120, .norm))], 5⟩ => some (y, z0, z1, z3_0, z3_1, z3_2, z4)
 | _ => none
noncomputable def E (K : Nat) : Entry := genE 5 inA (F K) (dv1 o0)
theorem ok (K : Nat) : EntryOK Tryz.prog 113 (E K) := gen_ok mix tys_ok (sp := tabSp [(80, (viewE [(0, .u8)] (f80.E K))), (111, (viewE [(1, .i64)] (f111.E K)))]) (tab_ok ((tab_cons (view_ok (f80.ok K)) (tab_cons (view_ok (f111.ok K)) tab_nil)))) Tryz.func113 (c := bodyOf Tryz.f113) (by kernel_rfl) (by kernel_rfl) (loops_none (lp := lpNone) (by kernel_rfl)) (av := av) (bl := bl) (inR := inR) (out := o0) (fuel := 400)
  (by intro s x h; unfold inA at h; split at h <;> simp at h; subst h; rfl) (fun _ => Nat.le_of_ble_eq_true rfl)
  (by intro s y h; unfold inR at h; split at h <;> simp at h <;> subst h <;> rfl) (fun _ _ _ => rfl) (fun _ => by kernel_rfl)
end f113
end Go.Proofs

namespace Go.Proofs
open Go.VM
namespace f98
abbrev Ty0 := List Int × Int × List Int × Int × Int × List Int × List Int × List Int × List Int × List Int × Int
abbrev Ty1 := List Int × Int × List Int × Int × Int × List Int × List Int × List Int
abbrev Ty2 := List Int × Int × Int × List Int × List Int × List Int × List Int
abbrev Ty3 := List Int × Int × Int × List Int × List Int × List Int
abbrev Ty4 := List Int × List Int × Int × Int × List Int
noncomputable def c : Code := bodyOf Tryz.f98
def s0t (K : Nat) (rec : Ty0 → Option (Ty2)) (t16 : List Int) (t17 : Int) (b0_0 : List Int) (b0_1 : Int) (b0_2 : Int) (b1 : List Int) (b2 : List Int) (b3 : List Int) (b4 : List Int) (b5 : List Int) (b6 : Int) : Option (Ty2) :=
 bif (decide (t17 < 64)) then
 bif decide (0 ≤ t17 ∧ t17 < 64) then
 (f111.F K ((List.getD b4 4 0), 3, 3, [6, 11, 25])).bind fun y7 =>
 (f113.F K (b5, b6, b0_0, b0_1, b0_2, b1)).bind fun y19 =>
 let v20 := IntKind.wrap .u32 ((IntKind.wrap .u32 ((IntKind.wrap .u32 ((IntKind.wrap .u32 ((List.getD b4 7 0) + y7.1)) + (bits .or .u32 (bits .and .u32 (List.getD b4 4 0) (List.getD b4 5 0)) (bits .and .u32 (bits .xor .u32 4294967295 (List.getD b4 4 0)) (List.getD b4 6 0))))) + (List.getD t16 (Int.toNat t17) 0))) + y19.1)
 (f111.F K ((List.getD b4 0 0), 3, 3, [2, 13, 22])).bind fun y22 =>
 let v33 := spl b4 1 7 (subI b4 0 7)
 rec (t16, (IntKind.wrap .i64 (t17 + 1)), y19.2.2.2.1, y19.2.2.2.2.1, y19.2.2.2.2.2.1, y19.2.2.2.2.2.2, b2, b3, (setD (setD v33 4 (IntKind.wrap .u32 ((List.getD v33 4 0) + v20))) 0 (IntKind.wrap .u32 (v20 + (IntKind.wrap .u32 (y22.1 + (bits .xor .u32 (bits .and .u32 (List.getD b4 0 0) (bits .xor .u32 (List.getD b4 1 0) (List.getD b4 2 0))) (bits .and .u32 (List.getD b4 1 0) (List.getD b4 2 0)))))))), y19.2.1, y19.2.2.1)
 else
 none
 else
 some (b0_0, b0_1, b0_2, b1, b2, b3, b4)
def s0 (K : Nat) (rec : Ty0 → Option (Ty2)) (x : Ty0) : Option (Ty2) := s0t K rec x.1 x.2.1 x.2.2.1 x.2.2.2.1 x.2.2.2.2.1 x.2.2.2.2.2.1 x.2.2.2.2.2.2.1 x.2.2.2.2.2.2.2.1 x.2.2.2.2.2.2.2.2.1 x.2.2.2.2.2.2.2.2.2.1 x.2.2.2.2.2.2.2.2.2.2
noncomputable def s0.b : Code := (findLoop 0 c).getD .skip
def s0.h : Hint := { lv := [2, 4, 5, 6, 16, 17] }
def s0.ho : Hint := { lv := [2, 4, 5] }
def s0.shp (x : Ty0) : VS := ⟨[(2, .ptr 2 0), (4, .ptr 3 0), (5, .ptr 4 0), (6, .fn 113 [.ptr 5 0, .ptr 6 0, .ptr 7 0]), (16, .agg [.ints .u32 64 x.1]), (17, .int .i64 x.2.1)], [(0, ([.ptr 1 0, .ints .u8 64 x.2.2.1, .int .i64 x.2.2.2.1, .int .u64 x.2.2.2.2.1], 125, .norm)), (1, ([.ints .u32 8 x.2.2.2.2.2.1], 120, .norm)), (2, ([.ints .u32 8 x.2.2.2.2.2.2.1], 120, .norm)), (3, ([.ints .u32 8 x.2.2.2.2.2.2.2.1], 120, .norm)), (4, ([.ints .u32 8 x.2.2.2.2.2.2.2.2.1], 120, .norm)), (5, ([.ints .u32 16 x.2.2.2.2.2.2.2.2.2.1], 145, .norm)), (6, ([.int .i64 x.2.2.2.2.2.2.2.2.2.2], 3, .norm)), (7, ([.ptr 0 1], 127, .norm))], 8⟩
def s0.inX : VS → Option (Ty0)
 | ⟨[(2, .ptr 2 0), (4, .ptr 3 0), (5, .ptr 4 0), (6, .fn 113 [.ptr 5 0, .ptr 6 0, .ptr 7 0]), (16, .agg [.ints .u32 64 t16]), (17, .int .i64 t17)], [(0, ([.ptr 1 0, .ints .u8 64 b0_0, .int .i64 b0_1, .int .u64 b0_2], 125, .norm)), (1, ([.ints .u32 8 b1], 120, .norm)), (2, ([.ints .u32 8 b2], 120, .norm)), (3, ([.ints .u32 8 b3], 120, .norm)), (4, ([.ints .u32 8 b4], 120, .norm)), (5, ([.ints .u32 16 b5], 145, .norm)), (6, ([.int .i64 b6], 3, .norm)), (7, ([.ptr 0 1], 127, .norm))], 8⟩ => some (t16, t17, b0_0, b0_1, b0_2, b1, b2, b3, b4, b5, b6)
 | _ => none
def s0.o0 (y : Ty2) : VS := ⟨[(2, .ptr 2 0), (4, .ptr 3 0), (5, .ptr 4 0)], [(0, ([.ptr 1 0, .ints .u8 64 y.1, .int .i64 y.2.1, .int .u64 y.2.2.1], 125, .norm)), (1, ([.ints .u32 8 y.2.2.2.1], 120, .norm)), (2, ([.ints .u32 8 y.2.2.2.2.1], 120, .norm)), (3, ([.ints .u32 8 y.2.2.2.2.2.1], 120, .norm)), (4, ([.ints .u32 8 y.2.2.2.2.2.2], 120, .norm))], 5⟩
def s0.des : ∀ α : Type, (Ty2) → (Ex → VS → Option α) → Option α := (des1 (.exit 0) s0.o0)
def s0.out : Ty2 → Ex × VS := (fun y => (.exit 0, s0.o0 y))
theorem s0.desOK : ∀ α y (k : Ex → VS → Option α), s0.des α y k = k (s0.out y).1 (s0.out y).2 := (fun _ _ _ => rfl)
def s0.inY : Ex → VS → Option (Ty2)
 | .exit 0, ⟨[(2, .ptr 2 0), (4, .ptr 3 0), (5, .ptr 4 0)], [(0, ([.ptr 1 0, .ints .u8 64 b0_0, .int .i64 b0_1, .int .u64 b0_2], 125, .norm)), (1, ([.ints .u32 8 b1], 120, .norm)), (2, ([.ints .u32 8 b2], 120, .norm)), (3, ([.ints .u32 8 b3], 120, .norm)), (4, ([.ints .u32 8 b4], 120, .norm))], 5⟩ => some (b0_0, b0_1, b0_2, b1, b2, b3, b4)
 | _, _ => none
def s2t (_K : Nat) (rec : Ty1 → Option (Ty3)) (t77 : List Int) (t78 : Int) (b0_0 : List Int) (b0_1 : Int) (b0_2 : Int) (b1 : List Int) (b2 : List Int) (b3 : List Int) : Option (Ty3) :=
 bif (decide (t78 < 8)) then
 bif decide (0 ≤ t78 ∧ t78 < 8) then
 bif decide (0 ≤ t78 ∧ t78 < 8) then
 bif decide (0 ≤ t78 ∧ t78 < 8) then
 rec (t77, (IntKind.wrap .i64 (t78 + 1)), b0_0, b0_1, b0_2, b1, b2, (setD b3 (Int.toNat t78) (IntKind.wrap .u32 ((List.getD b3 (Int.toNat t78) 0) + (List.getD t77 (Int.toNat t78) 0)))))
 else
 none
 else
 none
 else
 none
 else
 some (b0_0, b0_1, b0_2, b1, b2, b3)
def s2 (K : Nat) (rec : Ty1 → Option (Ty3)) (x : Ty1) : Option (Ty3) := s2t K rec x.1 x.2.1 x.2.2.1 x.2.2.2.1 x.2.2.2.2.1 x.2.2.2.2.2.1 x.2.2.2.2.2.2.1 x.2.2.2.2.2.2.2
noncomputable def s2.b : Code := (findLoop 2 c).getD .skip
def s2.h : Hint := { lv := [4, 5, 77, 78] }
def s2.ho : Hint := { lv := [4, 5] }
def s2.shp (x : Ty1) : VS := ⟨[(4, .ptr 2 0), (5, .ptr 3 0), (77, .agg [.ints .u32 8 x.1]), (78, .int .i64 x.2.1)], [(0, ([.ptr 1 0, .ints .u8 64 x.2.2.1, .int .i64 x.2.2.2.1, .int .u64 x.2.2.2.2.1], 125, .norm)), (1, ([.ints .u32 8 x.2.2.2.2.2.1], 120, .norm)), (2, ([.ints .u32 8 x.2.2.2.2.2.2.1], 120, .norm)), (3, ([.ints .u32 8 x.2.2.2.2.2.2.2], 120, .norm))], 4⟩
def s2.inX : VS → Option (Ty1)
 | ⟨[(4, .ptr 2 0), (5, .ptr 3 0), (77, .agg [.ints .u32 8 t77]), (78, .int .i64 t78)], [(0, ([.ptr 1 0, .ints .u8 64 b0_0, .int .i64 b0_1, .int .u64 b0_2], 125, .norm)), (1, ([.ints .u32 8 b1], 120, .norm)), (2, ([.ints .u32 8 b2], 120, .norm)), (3, ([.ints .u32 8 b3], 120, .norm))], 4⟩ => some (t77, t78, b0_0, b0_1, b0_2, b1, b2, b3)
 | _ => none
def s2.o0 (y : Ty3) : VS := ⟨[(4, .ptr 2 0), (5, .ptr 3 0)], [(0, ([.ptr 1 0, .ints .u8 64 y.1, .int .i64 y.2.1, .int .u64 y.2.2.1], 125, .norm)), (1, ([.ints .u32 8 y.2.2.2.1], 120, .norm)), (2, ([.ints .u32 8 y.2.2.2.2.1], 120, .norm)), (3, ([.ints .u32 8 y.2.2.2.2.2], 120, .norm))], 4⟩
def s2.des : ∀ α : Type, (Ty3) → (Ex → VS → Option α) → Option α := (des1 (.exit 2) s2.o0)
def s2.out : Ty3 → Ex × VS := (fun y => (.exit 2, s2.o0 y))
theorem s2.desOK : ∀ α y (k : Ex → VS → Option α), s2.des α y k = k (s2.out y).1 (s2.out y).2 := (fun _ _ _ => rfl)
def s2.inY : Ex → VS → Option (Ty3)
 | .exit 2, ⟨[(4, .ptr 2 0), (5, .ptr 3 0)], [(0, ([.ptr 1 0, .ints .u8 64 b0_0, .int .i64 b0_1, .int .u64 b0_2], 125, .norm)), (1, ([.ints .u32 8 b1], 120, .norm)), (2, ([.ints .u32 8 b2], 120, .norm)), (3, ([.ints .u32 8 b3], 120, .norm))], 4⟩ => some (b0_0, b0_1, b0_2, b1, b2, b3)
 | _, _ => none
def lp (K : Nat) : Nat → Option (Hint × Summ) := tabLp [(0, s0.h, summOf (iter (s0 K) K) s0.inX s0.des), (2, s2.h, summOf (iter (s2 K) K) s2.inX s2.des)]
noncomputable def tab (K : Nat) : List (Nat × Entry) := [(109, (f109.E K)), (110, (f110.E K)), (111, (viewE [(1, .i64)] (f111.E K))), (113, (f113.E K))]
theorem tabOK (K : Nat) : SpecOK Tryz.prog (tabSp (tab K)) := tab_ok ((tab_cons (f109.ok K) (tab_cons (f110.ok K) (tab_cons (view_ok (f111.ok K)) (tab_cons (f113.ok K) tab_nil)))))
theorem s0.eq (K : Nat) (rec : Ty0 → Option (Ty2)) (x : Ty0) : s0 K rec x = roundL (getA tys) (tabSp (tab K)) 90 2 (lp K) 400 s0.b s0.h s0.ho s0.shp s0.inX s0.inY rec x := by kernel_rfl
theorem s0.lok (K : Nat) : LoopsOK Tryz.prog 90 2 (lp K) s0.b := loops_ok (by
  have h : loopsIn (lp K) s0.b = [] := by kernel_rfl
  rw [h]; simp)
theorem s0.ok (K : Nat) : SummOK Tryz.prog 90 2 (summOf (iter (s0 K) K) s0.inX s0.des) s0.b :=
  loop_ok mix tys_ok (tabOK K) (h := s0.h) (ho := s0.ho) (shp := s0.shp) (inX := s0.inX) (des := s0.des) (out := s0.out) (inY := s0.inY) (fuel := 400)
    (by intro st x h; unfold s0.inX at h; split at h <;> simp at h; subst h; rfl)
    (by intro e st y h; unfold s0.inY at h; split at h <;> simp at h <;> subst h <;> rfl)
    s0.desOK (s0.lok K) (s0 K) (s0.eq K) K
theorem s2.eq (K : Nat) (rec : Ty1 → Option (Ty3)) (x : Ty1) : s2 K rec x = roundL (getA tys) (tabSp (tab K)) 90 2 (lp K) 400 s2.b s2.h s2.ho s2.shp s2.inX s2.inY rec x := by kernel_rfl
theorem s2.lok (K : Nat) : LoopsOK Tryz.prog 90 2 (lp K) s2.b := loops_ok (by
  have h : loopsIn (lp K) s2.b = [] := by kernel_rfl
  rw [h]; simp)
theorem s2.ok (K : Nat) : SummOK Tryz.prog 90 2 (summOf (iter (s2 K) K) s2.inX s2.des) s2.b :=
  loop_ok mix tys_ok (tabOK K) (h := s2.h) (ho := s2.ho) (shp := s2.shp) (inX := s2.inX) (des := s2.des) (out := s2.out) (inY := s2.inY) (fuel := 400)
    (by intro st x h; unfold s2.inX at h; split at h <;> simp at h; subst h; rfl)
    (by intro e st y h; unfold s2.inY at h; split at h <;> simp at h <;> subst h <;> rfl)
    s2.desOK (s2.lok K) (s2 K) (s2.eq K) K
theorem loops (K : Nat) : LoopsOK Tryz.prog 90 2 (lp K) c := loops_ok (by
  have h : loopsIn (lp K) c = [(0, s0.b), (2, s2.b)] := by kernel_rfl
  rw [h]
  intro p hp
  simp only [List.mem_cons, List.not_mem_nil, or_false] at hp
  rcases hp with rfl | rfl
  · exact ⟨_, rfl, (s0.ok K)⟩
  · exact ⟨_, rfl, (s2.ok K)⟩)
def T (K : Nat) (a0 : List Int) (m0_0 : List Int) (m0_1 : Int) (m0_2 : Int) (m1 : List Int) : Option (Ty4) :=
 (f109.F K (m0_0, m0_1, m0_2, m1)).bind fun y1 =>
 (f110.F K ()).bind fun y2 =>
 (iter (s0 K) K (y2, 0, y1.1, y1.2.1, y1.2.2.1, y1.2.2.2.1, a0, [0, 0, 0, 0, 0, 0, 0, 0], a0, y1.2.2.2.2.1, y1.2.2.2.2.2)).bind fun y40 =>
 (iter (s2 K) K (y40.2.2.2.2.1, 0, y40.1, y40.2.1, y40.2.2.1, y40.2.2.2.1, y40.2.2.2.2.2.1, y40.2.2.2.2.2.2)).bind fun y50 =>
 some (y50.2.2.2.2.2, y50.1, y50.2.1, y50.2.2.1, y50.2.2.2.1)
def F (K : Nat) (x : Ty4) : Option (Ty4) := T K x.1 x.2.1 x.2.2.1 x.2.2.2.1 x.2.2.2.2
def av (x : Ty4) : List VV := [.agg [.ints .u32 8 x.1], .ptr 0 1]
def bl (x : Ty4) : List (Nat × Blk) := [(0, ([.ptr 1 0, .ints .u8 64 x.2.1, .int .i64 x.2.2.1, .int .u64 x.2.2.2.1], 125, .norm)), (1, ([.ints .u32 8 x.2.2.2.2], 120, .norm))]
def inA : VS → Option (Ty4)
 | ⟨[(0, .agg [.ints .u32 8 a0]), (1, .ptr 0 1)], [(0, ([.ptr 1 0, .ints .u8 64 m0_0, .int .i64 m0_1, .int .u64 m0_2], 125, .norm)), (1, ([.ints .u32 8 m1], 120, .norm))], 2⟩ => some (a0, m0_0, m0_1, m0_2, m1)
 | _ => none
def o0 (y : Ty4) : VS := ⟨[(0, .agg [.ints .u32 8 y.1])], [(0, ([.ptr 1 0, .ints .u8 64 y.2.1, .int .i64 y.2.2.1, .int .u64 y.2.2.2.1], 125, .norm)), (1, ([.ints .u32 8 y.2.2.2.2], 120, .norm))], 2⟩
def des : ∀ α : Type, (Ty4) → (VS → Option α) → Option α := (dv1 o0)
def out : Ty4 → VS := o0
def inR : VS → Option (Ty4)
 | ⟨[(0, .agg [.ints .u32 8 y])], [(0, ([.ptr 1 0, .ints .u8 64 z0_0, .int .i64 z0_1, .int .u64 z0_2], 125, .norm)), (1, ([.ints .u32 8 z1], 120, .norm))], 2⟩ => some (y, z0_0, z0_1, z0_2, z1)
 | _ => none
noncomputable def E (K : Nat) : Entry := genE 2 inA (F K) des
theorem eq (K : Nat) (x : Ty4) : F K x = xrun (getA tys) (tabSp (tab K)) Tryz.f98.ntmps 2 (lp K) 400 c ⟨initL 0 (av x), bl x, 2⟩ (contF (getA tys) 2 Tryz.f98.results.toList inR) := by kernel_rfl
theorem ok (K : Nat) : EntryOK Tryz.prog 98 (E K) :=
  gen_ok mix tys_ok (tabOK K) Tryz.func98 (by kernel_rfl : Tryz.f98.body = some c) (by kernel_rfl) (loops K) (av := av) (bl := bl) (out := out) (fuel := 400)
    (by intro s x h; unfold inA at h; split at h <;> simp at h; subst h; rfl) (fun _ => Nat.le_of_ble_eq_true rfl)
    (by intro s y h; unfold inR at h; split at h <;> simp at h <;> subst h <;> rfl) (fun _ _ _ => rfl) (eq K)
end f98
end Go.Proofs

namespace Go.Proofs
open Go.VM
def Sh.rot (x u v : Int) : Int := bits .or .u32 (shiftI .shl .u32 x u) (shiftI .shr .u32 x v)
def Sh.downs (x : Int) (L : List Nat) : Int := L.foldl (fun a k => bits .xor .u32 a (Sh.rot x ((32 - k : Nat) : Int) (k : Int))) 0
theorem Sh.turn : ∀ k : Fin 32, 1 ≤ k.val → bits .and .u64 (IntKind.wrap .u64 (IntKind.wrap .i64 (0 - (k.val : Int)))) 31 = ((32 - k.val : Nat) : Int) ∧ IntKind.wrap .u64 (32 - ((32 - k.val : Nat) : Int)) = (k.val : Int) := by decide +kernel
theorem f114.spec (K : Nat) (x : Int) (k : Nat) (h1 : 1 ≤ k) (h2 : k ≤ 31) : f114.F K (x, IntKind.wrap .i64 (0 - (k : Int))) = some (Sh.rot x ((32 - k : Nat) : Int) (k : Int)) := by
  obtain ⟨e1, e2⟩ := Sh.turn ⟨k, by omega⟩ h1
  simp only [f114.F, f114.T]
  simp only [] at e1 e2
  rw [e1, e2, decide_eq_true (show (0 : Int) ≤ ((32 - k : Nat) : Int) by omega), cond_t, decide_eq_true (show (0 : Int) ≤ (k : Int) by omega), cond_t, Sh.rot]
theorem f111.spec (K : Nat) (x : Int) (L : List Nat) (n : Nat) (hn : L.length = n) (h : ∀ k ∈ L, 1 ≤ k ∧ k ≤ 31) (hK : n < K) (hs : n < 1000000) :
    f111.F K (x, n, n, L.map fun k : Nat => (k : Int)) = some (Sh.downs x L, n, L.map fun k : Nat => (k : Int)) := by
  have := iter_for (stp := f111.s0 K) (N := n) (fun i => (x, Sh.downs x (L.take i), n, ((n : Nat) : Int), (i : Int), n, L.map fun k : Nat => (k : Int))) (y := some (Sh.downs x L, n, L.map fun k : Nat => (k : Int))) ?_ ?_ hK
  · simp only [f111.F, f111.T]
    rw [show iter (f111.s0 K) K (x, 0, n, ((n : Nat) : Int), 0, n, L.map fun k : Nat => (k : Int)) = _ from this, bind_s]
  · intro i hi rec
    simp only [f111.s0, f111.s0t]
    have hm : i < L.length := by omega
    have hg : List.getD (L.map fun k : Nat => (k : Int)) i 0 = ((L[i] : Nat) : Int) := by simp [List.getD_eq_getElem?_getD, hm]
    obtain ⟨h1, h2⟩ := h L[i] (List.getElem_mem hm)
    rw [decide_eq_true (show (i : Int) < ((n : Nat) : Int) by omega), cond_t, decide_eq_true (show (0 : Int) ≤ (i : Int) ∧ (i : Int) < ((n : Nat) : Int) by omega), cond_t, Int.toNat_natCast, Nat.zero_add, show Nat.blt i n = true from by simp [Nat.blt_eq]; omega, cond_t, hg, f114.spec K x _ h1 h2, bind_s, wrap_i _ (by omega) (by omega)]
    have e : L.take (i + 1) = L.take i ++ [L[i]] := by rw [List.take_add_one, List.getElem?_eq_getElem hm]; rfl
    rw [e, Sh.downs, Sh.downs, List.foldl_append]
    rfl
  · intro rec
    simp only [f111.s0, f111.s0t]
    rw [decide_eq_false (show ¬ ((n : Nat) : Int) < ((n : Nat) : Int) by omega), cond_f, List.take_of_length_le (by omega)]
def Sh.sched (w b : List Int) (t : Nat) : List Int :=
  if t < 16 then setD w (t % 16) (IntKind.wrap .u32 ((tv (subI b (4 * t) 4) : Nat) : Int))
  else
    let x := List.getD w ((t + 1) % 16) 0
    let y := List.getD w ((t + 14) % 16) 0
    let w1 := setD w (t % 16) (IntKind.wrap .u32 ((List.getD w (t % 16) 0) + (bits .xor .u32 (Sh.downs x [7, 18]) (Int.fdiv x (2 ^ 3)))))
    let w2 := setD w1 (t % 16) (IntKind.wrap .u32 ((List.getD w1 (t % 16) 0) + (bits .xor .u32 (Sh.downs y [17, 19]) (Int.fdiv y (2 ^ 10)))))
    setD w2 (t % 16) (IntKind.wrap .u32 ((List.getD w2 (t % 16) 0) + (List.getD w2 ((t + 9) % 16) 0)))
theorem f113.spec (K t : Nat) (w b s : List Int) (hd mn : Int) (ht : t < 64) (ho : octets b) (hK : 8 < K) :
    f113.F K (w, (t : Int), b, hd, mn, s) = some (List.getD (Sh.sched w b t) (t % 16) 0, Sh.sched w b t, ((t + 1 : Nat) : Int), b, hd, mn, s) := by
  simp only [f113.F, f113.T]
  have m0 : Int.tmod (t : Int) 16 = ((t % 16 : Nat) : Int) := tmod_nat t 16
  have m1 : ∀ k : Nat, k < 100 → Int.tmod (IntKind.wrap .i64 ((t : Int) + (k : Int))) 16 = (((t + k) % 16 : Nat) : Int) := fun k hk => by
    rw [wrap_i _ (by omega) (by omega), show ((t : Int) + (k : Int)) = ((t + k : Nat) : Int) by omega]; exact tmod_nat (t + k) 16
  have m2 : ∀ k : Nat, decide ((0 : Int) ≤ ((k % 16 : Nat) : Int) ∧ ((k % 16 : Nat) : Int) < 16) = true := fun k => decide_eq_true (by omega)
  have e1 : Int.tmod (IntKind.wrap .i64 ((t : Int) + 1)) 16 = (((t + 1) % 16 : Nat) : Int) := m1 1 (by omega)
  have e14 : Int.tmod (IntKind.wrap .i64 ((t : Int) + 14)) 16 = (((t + 14) % 16 : Nat) : Int) := m1 14 (by omega)
  have e9 : Int.tmod (IntKind.wrap .i64 ((t : Int) + 9)) 16 = (((t + 9) % 16 : Nat) : Int) := m1 9 (by omega)
  have et : IntKind.wrap .i64 ((t : Int) + 1) = ((t + 1 : Nat) : Int) := by rw [wrap_i _ (by omega) (by omega)]; omega
  rw [m0, m2, cond_t]
  rcases Nat.lt_or_ge t 16 with h | h
  · rw [decide_eq_true (show (t : Int) < 16 by omega), cond_t]
    have e4 : IntKind.wrap .i64 (4 * (t : Int)) = ((4 * t : Nat) : Int) := by rw [wrap_i _ (by omega) (by omega)]; omega
    have e6 : (bif Nat.beq 64 (4 * t) then 0 else 4 * t) = 4 * t := by
      rw [show Nat.beq 64 (4 * t) = false from (by rw [← Bool.not_eq_true, Nat.beq_eq]; omega), cond_f]
    have es := f80.spec K (64 - 4 * t) 4 (subI b (4 * t) (64 - 4 * t)) (subI_length _ _ _) (octets_sub ho _ _) (by omega) (by omega) (by omega) hK
    have ek : (subI b (4 * t) (64 - 4 * t)).take 4 = subI b (4 * t) 4 := by
      rw [subI, subI, ← List.map_take, List.take_range, Nat.min_eq_left (by omega)]
    rw [ek] at es
    rw [e4, decide_eq_true (show (0 : Int) ≤ ((4 * t : Nat) : Int) ∧ ((4 * t : Nat) : Int) ≤ 64 by omega), cond_t]
    simp only [Int.toNat_natCast]
    rw [e6, ble_true (show 4 * t + (64 - 4 * t) ≤ 64 by omega), ble_true (Nat.le_refl (64 - 4 * t)), Bool.and_self, Bool.and_self, cond_t, show ((4 : Int)) = ((4 : Nat) : Int) from rfl, es, bind_s, et]
    simp only [Sh.sched, if_pos h]
  · rw [decide_eq_false (show ¬ (t : Int) < 16 by omega), cond_f, e1, m2, cond_t, e14, m2, cond_t]
    simp only [Int.toNat_natCast]
    have d1 := f111.spec K (List.getD w ((t + 1) % 16) 0) [7, 18] 2 rfl (by decide) (by omega) (by omega)
    have d2 := f111.spec K (List.getD w ((t + 14) % 16) 0) [17, 19] 2 rfl (by decide) (by omega) (by omega)
    simp only [List.map_cons, List.map_nil] at d1 d2
    rw [show ((7 : Int)) = ((7 : Nat) : Int) from rfl, show ((18 : Int)) = ((18 : Nat) : Int) from rfl, d1, bind_s, show ((17 : Int)) = ((17 : Nat) : Int) from rfl, show ((19 : Int)) = ((19 : Nat) : Int) from rfl, d2, bind_s, e9, m2, cond_t, et]
    simp only [Sh.sched, if_neg (show ¬ t < 16 by omega), Int.toNat_natCast]
def Sh.consts : List Int := [1116352408, 1899447441, 3049323471, 3921009573, 961987163, 1508970993, 2453635748, 2870763221, 3624381080, 310598401, 607225278, 1426881987, 1925078388, 2162078206, 2614888103, 3248222580, 3835390401, 4022224774, 264347078, 604807628, 770255983, 1249150122, 1555081692, 1996064986, 2554220882, 2821834349, 2952996808, 3210313671, 3336571891, 3584528711, 113926993, 338241895, 666307205, 773529912, 1294757372, 1396182291, 1695183700, 1986661051, 2177026350, 2456956037, 2730485921, 2820302411, 3259730800, 3345764771, 3516065817, 3600352804, 4094571909, 275423344, 430227734, 506948616, 659060556, 883997877, 958139571, 1322822218, 1537002063, 1747873779, 1955562222, 2024104815, 2227730452, 2361852424, 2428436474, 2756734187, 3204031479, 3329325298]
def Sh.step (b : List Int) (t : Nat) (vw : List Int × List Int) : List Int × List Int :=
  let v := vw.1
  let w := Sh.sched vw.2 b t
  let t1 := IntKind.wrap .u32 ((IntKind.wrap .u32 ((IntKind.wrap .u32 ((IntKind.wrap .u32 ((List.getD v 7 0) + Sh.downs (List.getD v 4 0) [6, 11, 25])) + (bits .or .u32 (bits .and .u32 (List.getD v 4 0) (List.getD v 5 0)) (bits .and .u32 (bits .xor .u32 4294967295 (List.getD v 4 0)) (List.getD v 6 0))))) + (List.getD Sh.consts t 0))) + List.getD w (t % 16) 0)
  let v33 := spl v 1 7 (subI v 0 7)
  (setD (setD v33 4 (IntKind.wrap .u32 ((List.getD v33 4 0) + t1))) 0 (IntKind.wrap .u32 (t1 + (IntKind.wrap .u32 (Sh.downs (List.getD v 0 0) [2, 13, 22] + (bits .xor .u32 (bits .and .u32 (List.getD v 0 0) (bits .xor .u32 (List.getD v 1 0) (List.getD v 2 0))) (bits .and .u32 (List.getD v 1 0) (List.getD v 2 0))))))), w)
def Sh.rounds (s b : List Int) : Nat → List Int × List Int
  | 0 => (s, [0, 0, 0, 0, 0, 0, 0, 0, 0, 0, 0, 0, 0, 0, 0, 0])
  | t + 1 => Sh.step b t (Sh.rounds s b t)
def Sh.added (v s : List Int) : Nat → List Int
  | 0 => s
  | i + 1 => setD (Sh.added v s i) i (IntKind.wrap .u32 (List.getD (Sh.added v s i) i 0 + List.getD v i 0))
def Sh.comp (s b : List Int) : List Int := Sh.added s (Sh.rounds s b 64).1 8
theorem f98.rounds (K : Nat) (s b : List Int) (hd mn : Int) (ho : octets b) (hK : 64 < K) (z : List Int) :
    iter (f98.s0 K) K (Sh.consts, 0, b, hd, mn, s, s, z, s, [0, 0, 0, 0, 0, 0, 0, 0, 0, 0, 0, 0, 0, 0, 0, 0], 0) = some (b, hd, mn, s, s, z, (Sh.rounds s b 64).1) := by
  have := iter_for (stp := f98.s0 K) (N := 64) (fun i => (Sh.consts, (i : Int), b, hd, mn, s, s, z, (Sh.rounds s b i).1, (Sh.rounds s b i).2, (i : Int))) (y := some (b, hd, mn, s, s, z, (Sh.rounds s b 64).1)) ?_ ?_ hK
  · exact this
  · intro i hi rec
    simp only [f98.s0, f98.s0t]
    have d1 := f111.spec K (List.getD (Sh.rounds s b i).1 4 0) [6, 11, 25] 3 rfl (by decide) (by omega) (by omega)
    have d2 := f111.spec K (List.getD (Sh.rounds s b i).1 0 0) [2, 13, 22] 3 rfl (by decide) (by omega) (by omega)
    simp only [List.map_cons, List.map_nil] at d1 d2
    rw [decide_eq_true (show (i : Int) < 64 by omega), cond_t, decide_eq_true (show (0 : Int) ≤ (i : Int) ∧ (i : Int) < 64 by omega), cond_t]
    rw [show ((6 : Int)) = ((6 : Nat) : Int) from rfl, show ((11 : Int)) = ((11 : Nat) : Int) from rfl, show ((25 : Int)) = ((25 : Nat) : Int) from rfl, d1, bind_s, f113.spec K i _ b s hd mn hi ho (by omega), bind_s]
    rw [show ((2 : Int)) = ((2 : Nat) : Int) from rfl, show ((13 : Int)) = ((13 : Nat) : Int) from rfl, show ((22 : Int)) = ((22 : Nat) : Int) from rfl, d2, bind_s, wrap_i _ (by omega) (by omega)]
    rfl
  · intro rec
    simp only [f98.s0, f98.s0t]
    rfl
theorem f98.sums (K : Nat) (s v b : List Int) (hd mn : Int) (a1 a2 : List Int) (hK : 8 < K) :
    iter (f98.s2 K) K (v, 0, b, hd, mn, a1, a2, s) = some (b, hd, mn, a1, a2, Sh.added v s 8) := by
  have := iter_for (stp := f98.s2 K) (N := 8) (fun i => (v, (i : Int), b, hd, mn, a1, a2, Sh.added v s i)) (y := some (b, hd, mn, a1, a2, Sh.added v s 8)) ?_ ?_ hK
  · exact this
  · intro i hi rec
    simp only [f98.s2, f98.s2t]
    rw [decide_eq_true (show (i : Int) < 8 by omega), cond_t, decide_eq_true (show (0 : Int) ≤ (i : Int) ∧ (i : Int) < 8 by omega), cond_t, cond_t, cond_t, Int.toNat_natCast, wrap_i _ (by omega) (by omega)]
    rfl
  · intro rec
    simp only [f98.s2, f98.s2t]
    rfl
theorem f98.spec (K : Nat) (s b : List Int) (hd mn : Int) (ho : octets b) (hK : 64 < K) : f98.F K (s, b, hd, mn, s) = some (Sh.comp s b, b, hd, mn, s) := by
  simp only [f98.F, f98.T]
  rw [show f109.F K (b, hd, mn, s) = some (b, hd, mn, s, [0, 0, 0, 0, 0, 0, 0, 0, 0, 0, 0, 0, 0, 0, 0, 0], 0) from rfl, bind_s, show f110.F K () = some Sh.consts from rfl, bind_s]
  simp only []
  rw [f98.rounds K s b hd mn ho hK, bind_s]
  simp only []
  rw [f98.sums K _ s b hd mn s [0, 0, 0, 0, 0, 0, 0, 0] (by omega), bind_s]
  rfl
end Go.Proofs

namespace Go.Proofs
open Go.VM
abbrev bv (x : Int) : BitVec 32 := BitVec.ofInt 32 x
theorem wrap_32n (n : Nat) (h : n < 4294967296) : IntKind.wrap .u32 (n : Int) = (n : Int) := by
  simp [IntKind.wrap, IntKind.signed, IntKind.bits]; omega
theorem bits_and (x y : Int) : bits .and .u32 x y = (((bv x &&& bv y).toNat : Nat) : Int) := wrap_32n _ (bv x &&& bv y).isLt
theorem bits_or (x y : Int) : bits .or .u32 x y = (((bv x ||| bv y).toNat : Nat) : Int) := wrap_32n _ (bv x ||| bv y).isLt
theorem bits_xor (x y : Int) : bits .xor .u32 x y = (((bv x ^^^ bv y).toNat : Nat) : Int) := wrap_32n _ (bv x ^^^ bv y).isLt
theorem bv_nat (v : BitVec 32) : bv ((v.toNat : Nat) : Int) = v := by rw [bv, BitVec.ofInt_natCast, BitVec.ofNat_toNat]; simp
theorem or_comm32 (x y : Int) : bits .or .u32 x y = bits .or .u32 y x := by rw [bits_or, bits_or, BitVec.or_comm]
theorem ch_same (e f g : Int) : bits .xor .u32 (bits .and .u32 e f) (bits .and .u32 (bits .xor .u32 4294967295 e) g) = bits .or .u32 (bits .and .u32 e f) (bits .and .u32 (bits .xor .u32 4294967295 e) g) := by
  have hn : bv 4294967295 = BitVec.allOnes 32 := by decide
  simp only [bits_xor, bits_or, bits_and, bv_nat, hn]
  congr 2
  ext i hi
  simp only [BitVec.getElem_xor, BitVec.getElem_or, BitVec.getElem_and, BitVec.getElem_allOnes]
  cases (bv e)[i] <;> cases (bv f)[i] <;> cases (bv g)[i] <;> rfl
theorem maj_same (a b c : Int) : bits .or .u32 (bits .or .u32 (bits .and .u32 a b) (bits .and .u32 a c)) (bits .and .u32 b c) = bits .xor .u32 (bits .and .u32 a (bits .xor .u32 b c)) (bits .and .u32 b c) := by
  simp only [bits_xor, bits_or, bits_and, bv_nat]
  congr 2
  ext i hi
  simp only [BitVec.getElem_xor, BitVec.getElem_or, BitVec.getElem_and]
  cases (bv a)[i] <;> cases (bv b)[i] <;> cases (bv c)[i] <;> rfl
theorem xor_zero_left (x y : Int) : bits .xor .u32 (bits .xor .u32 0 x) y = bits .xor .u32 x y := by
  have h0 : bv 0 = 0#32 := by decide
  simp only [bits_xor, bv_nat, h0, BitVec.zero_xor]
def Rf.round (x : Int) (n : Nat) : Int := bits .or .u32 (shiftI .shr .u32 x (n : Int)) (shiftI .shl .u32 x ((32 - n : Nat) : Int))
theorem Rf.round_rot (x : Int) (n : Nat) : Rf.round x n = Sh.rot x ((32 - n : Nat) : Int) (n : Int) := or_comm32 _ _
theorem Rf.two (x : Int) (m n : Nat) (z : Int) : bits .xor .u32 (Sh.downs x [m, n]) z = bits .xor .u32 (bits .xor .u32 (Rf.round x m) (Rf.round x n)) z := by
  simp only [Sh.downs, List.foldl_cons, List.foldl_nil, xor_zero_left, Rf.round_rot]
theorem Rf.three (x : Int) (m n o : Nat) : Sh.downs x [m, n, o] = bits .xor .u32 (bits .xor .u32 (Rf.round x m) (Rf.round x n)) (Rf.round x o) := by
  simp only [Sh.downs, List.foldl_cons, List.foldl_nil, xor_zero_left, Rf.round_rot]
def Rf.s0 (x : Int) : Int := bits .xor .u32 (bits .xor .u32 (Rf.round x 7) (Rf.round x 18)) (Int.fdiv x (2 ^ 3))
def Rf.s1 (x : Int) : Int := bits .xor .u32 (bits .xor .u32 (Rf.round x 17) (Rf.round x 19)) (Int.fdiv x (2 ^ 10))
def Rf.w (b : List Int) : Nat → Int
  | t => if t < 16 then IntKind.wrap .u32 ((tv (subI b (4 * t) 4) : Nat) : Int)
    else if h : 16 ≤ t then IntKind.wrap .u32 ((IntKind.wrap .u32 ((IntKind.wrap .u32 (Rf.w b (t - 16) + Rf.w b (t - 7))) + Rf.s0 (Rf.w b (t - 15)))) + Rf.s1 (Rf.w b (t - 2)))
    else 0
termination_by t => t
theorem wrap32_mod (z : Int) : IntKind.wrap .u32 z = z % 4294967296 := by simp [IntKind.wrap, IntKind.signed, IntKind.bits]
theorem sums32 (a b c d : Int) : IntKind.wrap .u32 ((IntKind.wrap .u32 ((IntKind.wrap .u32 (a + c)) + d)) + b) = IntKind.wrap .u32 ((IntKind.wrap .u32 ((IntKind.wrap .u32 (a + b)) + c)) + d) := by
  simp only [wrap32_mod]; omega
theorem setD_at (l : List Int) (p : Nat) (x : Int) (i : Nat) (hp : p < l.length) : (setD l p x).getD i 0 = if i = p then x else l.getD i 0 := by
  induction l generalizing p i with
  | nil => simp at hp
  | cons a l ih =>
    cases p with
    | zero => cases i <;> simp [setD]
    | succ p =>
      cases i with
      | zero => simp [setD]
      | succ i =>
        have := ih p i (by simpa using hp)
        simp only [setD, List.getD_cons_succ, this]
        by_cases h : i = p
        · rw [if_pos h, if_pos (by omega)]
        · rw [if_neg h, if_neg (by omega)]
theorem Rf.w_low (b : List Int) (t : Nat) (h : t < 16) : Rf.w b t = IntKind.wrap .u32 ((tv (subI b (4 * t) 4) : Nat) : Int) := by
  rw [Rf.w, if_pos h]
theorem Rf.w_high (b : List Int) (t : Nat) (h : 16 ≤ t) : Rf.w b t = IntKind.wrap .u32 ((IntKind.wrap .u32 ((IntKind.wrap .u32 (Rf.w b (t - 16) + Rf.w b (t - 7))) + Rf.s0 (Rf.w b (t - 15)))) + Rf.s1 (Rf.w b (t - 2))) := by
  rw [Rf.w, if_neg (by omega), dif_pos h]
theorem sched_at (w b : List Int) (t : Nat) (hl : w.length = 16) (hw : ∀ k, k < 16 → k < t → List.getD w k 0 = Rf.w b (k + (t - 1 - k) / 16 * 16)) :
    (Sh.sched w b t).length = 16 ∧ List.getD (Sh.sched w b t) (t % 16) 0 = Rf.w b t ∧ ∀ k, k ≠ t % 16 → List.getD (Sh.sched w b t) k 0 = List.getD w k 0 := by
  have hk0 : t % 16 < 16 := Nat.mod_lt _ (by decide)
  unfold Sh.sched
  by_cases h : t < 16
  · rw [if_pos h]
    refine ⟨by rw [length_setD (by omega)]; exact hl, ?_, fun k hk => ?_⟩
    · rw [setD_at _ _ _ _ (by omega), if_pos rfl, Rf.w_low b t h]
    · rw [setD_at _ _ _ _ (by omega), if_neg hk]
  · rw [if_neg h]
    dsimp only
    have x1 := hw ((t + 1) % 16) (Nat.mod_lt _ (by decide)) (by omega)
    have x14 := hw ((t + 14) % 16) (Nat.mod_lt _ (by decide)) (by omega)
    have x9 := hw ((t + 9) % 16) (Nat.mod_lt _ (by decide)) (by omega)
    have x0 := hw (t % 16) hk0 (by omega)
    rw [show (t + 1) % 16 + (t - 1 - (t + 1) % 16) / 16 * 16 = t - 15 by omega] at x1
    rw [show (t + 14) % 16 + (t - 1 - (t + 14) % 16) / 16 * 16 = t - 2 by omega] at x14
    rw [show (t + 9) % 16 + (t - 1 - (t + 9) % 16) / 16 * 16 = t - 7 by omega] at x9
    rw [show t % 16 + (t - 1 - t % 16) / 16 * 16 = t - 16 by omega] at x0
    have ne9 : (t + 9) % 16 ≠ t % 16 := by omega
    rw [x1, x14, x0]
    have L1 : ∀ v, (setD w (t % 16) v).length = 16 := fun v => by rw [length_setD (by omega)]; exact hl
    have L2 : ∀ v u, (setD (setD w (t % 16) v) (t % 16) u).length = 16 := fun v u => by rw [length_setD (by rw [L1]; omega)]; exact L1 v
    refine ⟨by rw [length_setD (by rw [L2]; omega)]; exact L2 _ _, ?_, fun k hk => ?_⟩
    · rw [setD_at _ _ _ _ (by rw [L2]; omega), if_pos rfl, setD_at _ _ _ (t % 16) (by rw [L1]; omega), if_pos rfl, setD_at _ _ _ ((t + 9) % 16) (by rw [L1]; omega), if_neg ne9, setD_at _ _ _ (t % 16) (by omega), if_pos rfl, setD_at _ _ _ ((t + 9) % 16) (by omega), if_neg ne9, x9, Rf.w_high b t (by omega),
        Rf.two, Rf.two, sums32]
      rfl
    · rw [setD_at _ _ _ _ (by rw [L2]; omega), if_neg hk, setD_at _ _ _ _ (by rw [L1]; omega), if_neg hk, setD_at _ _ _ _ (by omega), if_neg hk]
theorem window (s b : List Int) : ∀ t, (Sh.rounds s b t).2.length = 16 ∧ ∀ k, k < 16 → k < t → List.getD (Sh.rounds s b t).2 k 0 = Rf.w b (k + (t - 1 - k) / 16 * 16)
  | 0 => ⟨rfl, fun k _ hk => absurd hk (Nat.not_lt_zero k)⟩
  | t + 1 => by
    obtain ⟨hl, hw⟩ := window s b t
    obtain ⟨g1, g2, g3⟩ := sched_at _ b t hl hw
    refine ⟨g1, fun k hk hkt => ?_⟩
    show List.getD (Sh.sched (Sh.rounds s b t).2 b t) k 0 = _
    by_cases hkk : k = t % 16
    · subst hkk
      rw [g2, show t % 16 + (t + 1 - 1 - t % 16) / 16 * 16 = t by omega]
    · rw [g3 k hkk, hw k hk (by omega), show (t - 1 - k) / 16 = (t + 1 - 1 - k) / 16 by omega]
def Rf.step (b : List Int) (t : Nat) (l : List Int) : List Int :=
  let a := List.getD l 0 0
  let e := List.getD l 4 0
  let t1 := IntKind.wrap .u32 ((IntKind.wrap .u32 ((IntKind.wrap .u32 ((IntKind.wrap .u32 ((List.getD l 7 0) + (bits .xor .u32 (bits .xor .u32 (Rf.round e 6) (Rf.round e 11)) (Rf.round e 25)))) + (bits .xor .u32 (bits .and .u32 e (List.getD l 5 0)) (bits .and .u32 (bits .xor .u32 4294967295 e) (List.getD l 6 0))))) + (List.getD Sh.consts t 0))) + Rf.w b t)
  [IntKind.wrap .u32 (t1 + (IntKind.wrap .u32 ((bits .xor .u32 (bits .xor .u32 (Rf.round a 2) (Rf.round a 13)) (Rf.round a 22)) + (bits .or .u32 (bits .or .u32 (bits .and .u32 a (List.getD l 1 0)) (bits .and .u32 a (List.getD l 2 0))) (bits .and .u32 (List.getD l 1 0) (List.getD l 2 0)))))), a, List.getD l 1 0, List.getD l 2 0, IntKind.wrap .u32 (List.getD l 3 0 + t1), e, List.getD l 5 0, List.getD l 6 0]
def Rf.rounds (s b : List Int) : Nat → List Int
  | 0 => s
  | t + 1 => Rf.step b t (Rf.rounds s b t)
theorem step_same (b w v : List Int) (t : Nat) (hv : v.length = 8) (hw : List.getD (Sh.sched w b t) (t % 16) 0 = Rf.w b t) : (Sh.step b t (v, w)).1 = Rf.step b t v := by
  obtain ⟨v0, v1, v2, v3, v4, v5, v6, v7, rfl⟩ : ∃ v0 v1 v2 v3 v4 v5 v6 v7, v = [v0, v1, v2, v3, v4, v5, v6, v7] := by
    match v, hv with
    | [v0, v1, v2, v3, v4, v5, v6, v7], _ => exact ⟨v0, v1, v2, v3, v4, v5, v6, v7, rfl⟩
  unfold Sh.step Rf.step
  dsimp only
  rw [hw, Rf.three, Rf.three]
  have g0 : List.getD [v0, v1, v2, v3, v4, v5, v6, v7] 0 0 = v0 := rfl
  have g1 : List.getD [v0, v1, v2, v3, v4, v5, v6, v7] 1 0 = v1 := rfl
  have g2 : List.getD [v0, v1, v2, v3, v4, v5, v6, v7] 2 0 = v2 := rfl
  have g3 : List.getD [v0, v1, v2, v3, v4, v5, v6, v7] 3 0 = v3 := rfl
  have g4 : List.getD [v0, v1, v2, v3, v4, v5, v6, v7] 4 0 = v4 := rfl
  have g5 : List.getD [v0, v1, v2, v3, v4, v5, v6, v7] 5 0 = v5 := rfl
  have g6 : List.getD [v0, v1, v2, v3, v4, v5, v6, v7] 6 0 = v6 := rfl
  have g7 : List.getD [v0, v1, v2, v3, v4, v5, v6, v7] 7 0 = v7 := rfl
  have e : spl [v0, v1, v2, v3, v4, v5, v6, v7] 1 7 (subI [v0, v1, v2, v3, v4, v5, v6, v7] 0 7) = [v0, v0, v1, v2, v3, v4, v5, v6] := rfl
  rw [e, g0, g1, g2, g3, g4, g5, g6, g7, ← ch_same, ← maj_same]
  rfl
theorem step_len (b : List Int) (t : Nat) (l : List Int) : (Rf.step b t l).length = 8 := rfl
theorem rounds_same (s b : List Int) (hs : s.length = 8) : ∀ t, (Sh.rounds s b t).1 = Rf.rounds s b t ∧ (Rf.rounds s b t).length = 8
  | 0 => ⟨rfl, hs⟩
  | t + 1 => by
    obtain ⟨h1, h2⟩ := rounds_same s b hs t
    obtain ⟨hl, hw⟩ := window s b t
    obtain ⟨_, g2, _⟩ := sched_at _ b t hl hw
    refine ⟨?_, step_len _ _ _⟩
    show (Sh.step b t (Sh.rounds s b t)).1 = Rf.step b t (Rf.rounds s b t)
    rw [← h1]
    exact step_same b (Sh.rounds s b t).2 (Sh.rounds s b t).1 t (by rw [h1]; exact h2) g2
theorem comp_same (s b : List Int) (hs : s.length = 8) : Sh.comp s b = Sh.added s (Rf.rounds s b 64) 8 := by
  rw [Sh.comp, (rounds_same s b hs 64).1]
end Go.Proofs

namespace Go.Proofs
open Go.VM
namespace f103
def T (_K : Nat)  : Option (List Int) :=
 some ([1116352408, 1899447441, 3049323471, 3921009573, 961987163, 1508970993, 2453635748, 2870763221, 3624381080, 310598401, 607225278, 1426881987, 1925078388, 2162078206, 2614888103, 3248222580, 3835390401, 4022224774, 264347078, 604807628, 770255983, 1249150122, 1555081692, 1996064986, 2554220882, 2821834349, 2952996808, 3210313671, 3336571891, 3584528711, 113926993, 338241895, 666307205, 773529912, 1294757372, 1396182291, 1695183700, 1986661051, 2177026350, 2456956037, 2730485921, 2820302411, 3259730800, 3345764771, 3516065817, 3600352804, 4094571909, 275423344, 430227734, 506948616, 659060556, 883997877, 958139571, 1322822218, 1537002063, 1747873779, 1955562222, 2024104815, 2227730452, 2361852424, 2428436474, 2756734187, 3204031479, 3329325298])
def F (K : Nat) (_x : Unit) : Option (List Int) := T K
def av (_x : Unit) : List VV := []
def bl (_x : Unit) : List (Nat × Blk) := []
def inA : VS → Option (Unit)
 | ⟨[], [], 0⟩ => some ()
 | _ => none
def o0 (y : List Int) : VS := ⟨[(0, .sl 0 0 64 64)], [(0, ([.ints .u32 64 y], 118, .norm))], 1⟩
def inR : VS → Option (List Int)
 | ⟨[(0, .sl 0 0 64 64)], [(0, ([.ints .u32 64 z0], 118, .norm))], 1⟩ => some z0
 | _ => none
noncomputable def E (K : Nat) : Entry := genE 0 inA (F K) (dv1 o0)
theorem ok (K : Nat) : EntryOK Tryz.prog 103 (E K) := gen_ok mix tys_ok (tab_ok ( tab_nil)) Tryz.func103 (c := bodyOf Tryz.f103) (by kernel_rfl) (by kernel_rfl) (loops_none (lp := lpNone) (by kernel_rfl)) (av := av) (bl := bl) (inR := inR) (out := o0) (fuel := 400)
  (by intro s x h; unfold inA at h; split at h <;> simp at h; rfl) (fun _ => Nat.le_of_ble_eq_true rfl)
  (by intro s y h; unfold inR at h; split at h <;> simp at h <;> subst h <;> rfl) (fun _ _ _ => rfl) (fun _ => by kernel_rfl)
end f103
end Go.Proofs

namespace Go.Proofs
open Go.VM
namespace f112
def T (_K : Nat) (a0 : Int) (a1 : Int) : Option (Int) :=
 bif decide (0 ≤ a1) then
 let v2 := IntKind.wrap .u64 (32 - a1)
 bif decide (0 ≤ v2) then
 some (bits .or .u32 (shiftI .shr .u32 a0 a1) (shiftI .shl .u32 a0 v2))
 else
 none
 else
 none
def F (K : Nat) (x : Int × Int) : Option (Int) := T K x.1 x.2
def av (x : Int × Int) : List VV := [.int .u32 x.1, .int .u64 x.2]
def bl (_x : Int × Int) : List (Nat × Blk) := []
def inA : VS → Option (Int × Int)
 | ⟨[(0, .int .u32 a0), (1, .int .u64 a1)], [], 0⟩ => some (a0, a1)
 | _ => none
def o0 (y : Int) : VS := ⟨[(0, .int .u32 y)], [], 0⟩
def inR : VS → Option (Int)
 | ⟨[(0, .int .u32 y)], [], 0⟩ => some y
 | _ => none
noncomputable def E (K : Nat) : Entry := genE 0 inA (F K) (dv1 o0)
theorem ok (K : Nat) : EntryOK Tryz.prog 112 (E K) := gen_ok mix tys_ok (tab_ok ( tab_nil)) Tryz.func112 (c := bodyOf Tryz.f112) (by kernel_rfl) (by kernel_rfl) (loops_none (lp := lpNone) (by kernel_rfl)) (av := av) (bl := bl) (inR := inR) (out := o0) (fuel := 400)
  (by intro s x h; unfold inA at h; split at h <;> simp at h; subst h; rfl) (fun _ => Nat.le_of_ble_eq_true rfl)
  (by intro s y h; unfold inR at h; split at h <;> simp at h <;> subst h <;> rfl) (fun _ _ _ => rfl) (fun _ => by kernel_rfl)
end f112
end Go.Proofs

namespace Go.Proofs
open Go.VM
namespace f104
abbrev Ty0 := Nat × Int × Nat × List Int × Nat × List Int × List Int × List Int × List Int × List Int
abbrev Ty1 := Nat × Nat × Int × Nat × List Int × Nat × List Int × List Int × List Int × List Int
abbrev Ty2 := Nat × Int × Nat × List Int × Nat × List Int × List Int × List Int × List Int
abbrev Ty3 := Nat × Nat × List Int × Nat × List Int × List Int × List Int × List Int
abbrev Ty4 := Int × Nat × List Int × Nat × List Int × List Int × List Int × List Int
abbrev Ty5 := Nat × List Int × Nat × List Int × List Int × List Int × List Int
abbrev Ty6 := List Int × Nat × Nat × Nat × List Int × Nat × List Int
abbrev Ty7 := Nat × List Int × Nat × List Int × List Int × List Int
abbrev Ty8 := List Int × Nat × List Int × Nat × List Int
noncomputable def c : Code := bodyOf Tryz.f104
def s0t (_K : Nat) (rec : Ty1 → Option (Ty3)) (t1 : Nat) (t2 : Nat) (t8 : Int) (b0_0 : Nat) (b0_1 : List Int) (b2_0 : Nat) (b2_1 : List Int) (b4 : List Int) (b5 : List Int) (b6 : List Int) : Option (Ty3) :=
 bif (decide (t8 < 16)) then
 let v2 := IntKind.wrap .i64 (4 * t8)
 bif decide (0 ≤ v2 ∧ v2 < ((t1 : Nat) : Int)) then
 let v3 := 0 + (Int.toNat v2)
 bif Nat.blt v3 b0_0 then
 let v8 := IntKind.wrap .i64 ((IntKind.wrap .i64 (4 * t8)) + 1)
 bif decide (0 ≤ v8 ∧ v8 < ((t1 : Nat) : Int)) then
 let v9 := 0 + (Int.toNat v8)
 bif Nat.blt v9 b0_0 then
 let v15 := IntKind.wrap .i64 ((IntKind.wrap .i64 (4 * t8)) + 2)
 bif decide (0 ≤ v15 ∧ v15 < ((t1 : Nat) : Int)) then
 let v16 := 0 + (Int.toNat v15)
 bif Nat.blt v16 b0_0 then
 let v22 := IntKind.wrap .i64 ((IntKind.wrap .i64 (4 * t8)) + 3)
 bif decide (0 ≤ v22 ∧ v22 < ((t1 : Nat) : Int)) then
 let v23 := 0 + (Int.toNat v22)
 bif Nat.blt v23 b0_0 then
 bif decide (0 ≤ t8 ∧ t8 < 64) then
 rec (t1, t2, (IntKind.wrap .i64 (t8 + 1)), b0_0, b0_1, b2_0, b2_1, b4, b5, (setD b6 (Int.toNat t8) (bits .or .u32 (bits .or .u32 (bits .or .u32 (IntKind.wrap .u32 ((IntKind.wrap .u32 (List.getD b0_1 v3 0)) * 2 ^ 24)) (IntKind.wrap .u32 ((IntKind.wrap .u32 (List.getD b0_1 v9 0)) * 2 ^ 16))) (IntKind.wrap .u32 ((IntKind.wrap .u32 (List.getD b0_1 v16 0)) * 2 ^ 8))) (IntKind.wrap .u32 (List.getD b0_1 v23 0)))))
 else
 none
 else
 none
 else
 none
 else
 none
 else
 none
 else
 none
 else
 none
 else
 none
 else
 none
 else
 some (t2, b0_0, b0_1, b2_0, b2_1, b4, b5, b6)
def s0 (K : Nat) (rec : Ty1 → Option (Ty3)) (x : Ty1) : Option (Ty3) := s0t K rec x.1 x.2.1 x.2.2.1 x.2.2.2.1 x.2.2.2.2.1 x.2.2.2.2.2.1 x.2.2.2.2.2.2.1 x.2.2.2.2.2.2.2.1 x.2.2.2.2.2.2.2.2.1 x.2.2.2.2.2.2.2.2.2
noncomputable def s0.b : Code := (findLoop 0 c).getD .skip
def s0.h : Hint := { lv := [1, 2, 3, 6, 7, 8] }
def s0.ho : Hint := { lv := [2, 3, 6, 7] }
def s0.shp (x : Ty1) : VS := ⟨[(1, .vw true 0 0 x.1 1), (2, .vw true 2 0 x.2.1 3), (3, .ptr 4 0), (6, .ptr 5 0), (7, .ptr 6 0), (8, .int .i64 x.2.2.1)], [(0, ([.ints .u8 x.2.2.2.1 x.2.2.2.2.1], 0, .ro)), (2, ([.ints .u32 x.2.2.2.2.2.1 x.2.2.2.2.2.2.1], 0, .ro)), (4, ([.ints .u32 8 x.2.2.2.2.2.2.2.1], 119, .norm)), (5, ([.ints .u32 8 x.2.2.2.2.2.2.2.2.1], 119, .norm)), (6, ([.ints .u32 64 x.2.2.2.2.2.2.2.2.2], 140, .norm))], 7⟩
def s0.inX : VS → Option (Ty1)
 | ⟨[(1, .vw true 0 0 t1 1), (2, .vw true 2 0 t2 3), (3, .ptr 4 0), (6, .ptr 5 0), (7, .ptr 6 0), (8, .int .i64 t8)], [(0, ([.ints .u8 b0_0 b0_1], 0, .ro)), (2, ([.ints .u32 b2_0 b2_1], 0, .ro)), (4, ([.ints .u32 8 b4], 119, .norm)), (5, ([.ints .u32 8 b5], 119, .norm)), (6, ([.ints .u32 64 b6], 140, .norm))], 7⟩ => some (t1, t2, t8, b0_0, b0_1, b2_0, b2_1, b4, b5, b6)
 | _ => none
def s0.o0 (y : Ty3) : VS := ⟨[(2, .vw true 2 0 y.1 3), (3, .ptr 4 0), (6, .ptr 5 0), (7, .ptr 6 0)], [(0, ([.ints .u8 y.2.1 y.2.2.1], 0, .ro)), (2, ([.ints .u32 y.2.2.2.1 y.2.2.2.2.1], 0, .ro)), (4, ([.ints .u32 8 y.2.2.2.2.2.1], 119, .norm)), (5, ([.ints .u32 8 y.2.2.2.2.2.2.1], 119, .norm)), (6, ([.ints .u32 64 y.2.2.2.2.2.2.2], 140, .norm))], 7⟩
def s0.des : ∀ α : Type, (Ty3) → (Ex → VS → Option α) → Option α := (des1 (.exit 0) s0.o0)
def s0.out : Ty3 → Ex × VS := (fun y => (.exit 0, s0.o0 y))
theorem s0.desOK : ∀ α y (k : Ex → VS → Option α), s0.des α y k = k (s0.out y).1 (s0.out y).2 := (fun _ _ _ => rfl)
def s0.inY : Ex → VS → Option (Ty3)
 | .exit 0, ⟨[(2, .vw true 2 0 t2 3), (3, .ptr 4 0), (6, .ptr 5 0), (7, .ptr 6 0)], [(0, ([.ints .u8 b0_0 b0_1], 0, .ro)), (2, ([.ints .u32 b2_0 b2_1], 0, .ro)), (4, ([.ints .u32 8 b4], 119, .norm)), (5, ([.ints .u32 8 b5], 119, .norm)), (6, ([.ints .u32 64 b6], 140, .norm))], 7⟩ => some (t2, b0_0, b0_1, b2_0, b2_1, b4, b5, b6)
 | _, _ => none
def s2t (K : Nat) (rec : Ty2 → Option (Ty3)) (t2 : Nat) (t9 : Int) (b0_0 : Nat) (b0_1 : List Int) (b2_0 : Nat) (b2_1 : List Int) (b4 : List Int) (b5 : List Int) (b6 : List Int) : Option (Ty3) :=
 bif (decide (t9 < 64)) then
 let v32 := IntKind.wrap .i64 (t9 - 15)
 bif decide (0 ≤ v32 ∧ v32 < 64) then
 let v34 := List.getD b6 (Int.toNat v32) 0
 let v35 := IntKind.wrap .i64 (t9 - 2)
 bif decide (0 ≤ v35 ∧ v35 < 64) then
 let v37 := List.getD b6 (Int.toNat v35) 0
 let v38 := IntKind.wrap .i64 (t9 - 16)
 bif decide (0 ≤ v38 ∧ v38 < 64) then
 let v41 := IntKind.wrap .i64 (t9 - 7)
 bif decide (0 ≤ v41 ∧ v41 < 64) then
 (f112.F K (v34, 7)).bind fun y45 =>
 (f112.F K (v34, 18)).bind fun y46 =>
 (f112.F K (v37, 17)).bind fun y51 =>
 (f112.F K (v37, 19)).bind fun y52 =>
 bif decide (0 ≤ t9 ∧ t9 < 64) then
 rec (t2, (IntKind.wrap .i64 (t9 + 1)), b0_0, b0_1, b2_0, b2_1, b4, b5, (setD b6 (Int.toNat t9) (IntKind.wrap .u32 ((IntKind.wrap .u32 ((IntKind.wrap .u32 ((List.getD b6 (Int.toNat v38) 0) + (List.getD b6 (Int.toNat v41) 0))) + (bits .xor .u32 (bits .xor .u32 y45 y46) (Int.fdiv v34 (2 ^ 3))))) + (bits .xor .u32 (bits .xor .u32 y51 y52) (Int.fdiv v37 (2 ^ 10)))))))
 else
 none
 else
 none
 else
 none
 else
 none
 else
 none
 else
 some (t2, b0_0, b0_1, b2_0, b2_1, b4, b5, b6)
def s2 (K : Nat) (rec : Ty2 → Option (Ty3)) (x : Ty2) : Option (Ty3) := s2t K rec x.1 x.2.1 x.2.2.1 x.2.2.2.1 x.2.2.2.2.1 x.2.2.2.2.2.1 x.2.2.2.2.2.2.1 x.2.2.2.2.2.2.2.1 x.2.2.2.2.2.2.2.2
noncomputable def s2.b : Code := (findLoop 2 c).getD .skip
def s2.h : Hint := { lv := [2, 3, 6, 7, 9] }
def s2.ho : Hint := { lv := [2, 3, 6, 7] }
def s2.shp (x : Ty2) : VS := ⟨[(2, .vw true 2 0 x.1 3), (3, .ptr 4 0), (6, .ptr 5 0), (7, .ptr 6 0), (9, .int .i64 x.2.1)], [(0, ([.ints .u8 x.2.2.1 x.2.2.2.1], 0, .ro)), (2, ([.ints .u32 x.2.2.2.2.1 x.2.2.2.2.2.1], 0, .ro)), (4, ([.ints .u32 8 x.2.2.2.2.2.2.1], 119, .norm)), (5, ([.ints .u32 8 x.2.2.2.2.2.2.2.1], 119, .norm)), (6, ([.ints .u32 64 x.2.2.2.2.2.2.2.2], 140, .norm))], 7⟩
def s2.inX : VS → Option (Ty2)
 | ⟨[(2, .vw true 2 0 t2 3), (3, .ptr 4 0), (6, .ptr 5 0), (7, .ptr 6 0), (9, .int .i64 t9)], [(0, ([.ints .u8 b0_0 b0_1], 0, .ro)), (2, ([.ints .u32 b2_0 b2_1], 0, .ro)), (4, ([.ints .u32 8 b4], 119, .norm)), (5, ([.ints .u32 8 b5], 119, .norm)), (6, ([.ints .u32 64 b6], 140, .norm))], 7⟩ => some (t2, t9, b0_0, b0_1, b2_0, b2_1, b4, b5, b6)
 | _ => none
def s2.o0 (y : Ty3) : VS := ⟨[(2, .vw true 2 0 y.1 3), (3, .ptr 4 0), (6, .ptr 5 0), (7, .ptr 6 0)], [(0, ([.ints .u8 y.2.1 y.2.2.1], 0, .ro)), (2, ([.ints .u32 y.2.2.2.1 y.2.2.2.2.1], 0, .ro)), (4, ([.ints .u32 8 y.2.2.2.2.2.1], 119, .norm)), (5, ([.ints .u32 8 y.2.2.2.2.2.2.1], 119, .norm)), (6, ([.ints .u32 64 y.2.2.2.2.2.2.2], 140, .norm))], 7⟩
def s2.des : ∀ α : Type, (Ty3) → (Ex → VS → Option α) → Option α := (des1 (.exit 2) s2.o0)
def s2.out : Ty3 → Ex × VS := (fun y => (.exit 2, s2.o0 y))
theorem s2.desOK : ∀ α y (k : Ex → VS → Option α), s2.des α y k = k (s2.out y).1 (s2.out y).2 := (fun _ _ _ => rfl)
def s2.inY : Ex → VS → Option (Ty3)
 | .exit 2, ⟨[(2, .vw true 2 0 t2 3), (3, .ptr 4 0), (6, .ptr 5 0), (7, .ptr 6 0)], [(0, ([.ints .u8 b0_0 b0_1], 0, .ro)), (2, ([.ints .u32 b2_0 b2_1], 0, .ro)), (4, ([.ints .u32 8 b4], 119, .norm)), (5, ([.ints .u32 8 b5], 119, .norm)), (6, ([.ints .u32 64 b6], 140, .norm))], 7⟩ => some (t2, b0_0, b0_1, b2_0, b2_1, b4, b5, b6)
 | _, _ => none
def s4t (K : Nat) (rec : Ty0 → Option (Ty5)) (t2 : Nat) (t13 : Int) (b0_0 : Nat) (b0_1 : List Int) (b2_0 : Nat) (b2_1 : List Int) (b4 : List Int) (b5 : List Int) (b6 : List Int) (b7 : List Int) : Option (Ty5) :=
 bif (decide (t13 < 64)) then
 let v63 := List.getD b7 0 0
 let v64 := List.getD b7 4 0
 (f112.F K (v64, 6)).bind fun y66 =>
 (f112.F K (v64, 11)).bind fun y67 =>
 (f112.F K (v64, 25)).bind fun y69 =>
 bif decide (0 ≤ t13 ∧ t13 < ((t2 : Nat) : Int)) then
 let v79 := 0 + (Int.toNat t13)
 bif Nat.blt v79 b2_0 then
 bif decide (0 ≤ t13 ∧ t13 < 64) then
 let v84 := IntKind.wrap .u32 ((IntKind.wrap .u32 ((IntKind.wrap .u32 ((IntKind.wrap .u32 ((List.getD b7 7 0) + (bits .xor .u32 (bits .xor .u32 y66 y67) y69))) + (bits .xor .u32 (bits .and .u32 v64 (List.getD b7 5 0)) (bits .and .u32 (bits .xor .u32 4294967295 v64) (List.getD b7 6 0))))) + (List.getD b2_1 v79 0))) + (List.getD b6 (Int.toNat t13) 0))
 (f112.F K (v63, 2)).bind fun y85 =>
 (f112.F K (v63, 13)).bind fun y86 =>
 (f112.F K (v63, 22)).bind fun y88 =>
 rec (t2, (IntKind.wrap .i64 (t13 + 1)), b0_0, b0_1, b2_0, b2_1, b4, b5, b6, [(IntKind.wrap .u32 (v84 + (IntKind.wrap .u32 ((bits .xor .u32 (bits .xor .u32 y85 y86) y88) + (bits .or .u32 (bits .or .u32 (bits .and .u32 v63 (List.getD b7 1 0)) (bits .and .u32 v63 (List.getD b7 2 0))) (bits .and .u32 (List.getD b7 1 0) (List.getD b7 2 0))))))), v63, (List.getD b7 1 0), (List.getD b7 2 0), (IntKind.wrap .u32 ((List.getD b7 3 0) + v84)), v64, (List.getD b7 5 0), (List.getD b7 6 0)])
 else
 none
 else
 none
 else
 none
 else
 some (b0_0, b0_1, b2_0, b2_1, b4, b5, b7)
def s4 (K : Nat) (rec : Ty0 → Option (Ty5)) (x : Ty0) : Option (Ty5) := s4t K rec x.1 x.2.1 x.2.2.1 x.2.2.2.1 x.2.2.2.2.1 x.2.2.2.2.2.1 x.2.2.2.2.2.2.1 x.2.2.2.2.2.2.2.1 x.2.2.2.2.2.2.2.2.1 x.2.2.2.2.2.2.2.2.2
noncomputable def s4.b : Code := (findLoop 4 c).getD .skip
def s4.h : Hint := { lv := [2, 3, 6, 7, 12, 13] }
def s4.ho : Hint := { lv := [3, 6, 12] }
def s4.shp (x : Ty0) : VS := ⟨[(2, .vw true 2 0 x.1 3), (3, .ptr 4 0), (6, .ptr 5 0), (7, .ptr 6 0), (12, .ptr 7 0), (13, .int .i64 x.2.1)], [(0, ([.ints .u8 x.2.2.1 x.2.2.2.1], 0, .ro)), (2, ([.ints .u32 x.2.2.2.2.1 x.2.2.2.2.2.1], 0, .ro)), (4, ([.ints .u32 8 x.2.2.2.2.2.2.1], 119, .norm)), (5, ([.ints .u32 8 x.2.2.2.2.2.2.2.1], 119, .norm)), (6, ([.ints .u32 64 x.2.2.2.2.2.2.2.2.1], 140, .norm)), (7, ([.ints .u32 8 x.2.2.2.2.2.2.2.2.2], 119, .norm))], 8⟩
def s4.inX : VS → Option (Ty0)
 | ⟨[(2, .vw true 2 0 t2 3), (3, .ptr 4 0), (6, .ptr 5 0), (7, .ptr 6 0), (12, .ptr 7 0), (13, .int .i64 t13)], [(0, ([.ints .u8 b0_0 b0_1], 0, .ro)), (2, ([.ints .u32 b2_0 b2_1], 0, .ro)), (4, ([.ints .u32 8 b4], 119, .norm)), (5, ([.ints .u32 8 b5], 119, .norm)), (6, ([.ints .u32 64 b6], 140, .norm)), (7, ([.ints .u32 8 b7], 119, .norm))], 8⟩ => some (t2, t13, b0_0, b0_1, b2_0, b2_1, b4, b5, b6, b7)
 | _ => none
def s4.o0 (y : Ty5) : VS := ⟨[(3, .ptr 4 0), (6, .ptr 5 0), (12, .ptr 6 0)], [(0, ([.ints .u8 y.1 y.2.1], 0, .ro)), (2, ([.ints .u32 y.2.2.1 y.2.2.2.1], 0, .ro)), (4, ([.ints .u32 8 y.2.2.2.2.1], 119, .norm)), (5, ([.ints .u32 8 y.2.2.2.2.2.1], 119, .norm)), (6, ([.ints .u32 8 y.2.2.2.2.2.2], 119, .norm))], 7⟩
def s4.des : ∀ α : Type, (Ty5) → (Ex → VS → Option α) → Option α := (des1 (.exit 4) s4.o0)
def s4.out : Ty5 → Ex × VS := (fun y => (.exit 4, s4.o0 y))
theorem s4.desOK : ∀ α y (k : Ex → VS → Option α), s4.des α y k = k (s4.out y).1 (s4.out y).2 := (fun _ _ _ => rfl)
def s4.inY : Ex → VS → Option (Ty5)
 | .exit 4, ⟨[(3, .ptr 4 0), (6, .ptr 5 0), (12, .ptr 6 0)], [(0, ([.ints .u8 b0_0 b0_1], 0, .ro)), (2, ([.ints .u32 b2_0 b2_1], 0, .ro)), (4, ([.ints .u32 8 b4], 119, .norm)), (5, ([.ints .u32 8 b5], 119, .norm)), (6, ([.ints .u32 8 b6], 119, .norm))], 7⟩ => some (b0_0, b0_1, b2_0, b2_1, b4, b5, b6)
 | _, _ => none
def s6t (_K : Nat) (rec : Ty4 → Option (Ty7)) (t18 : Int) (b0_0 : Nat) (b0_1 : List Int) (b2_0 : Nat) (b2_1 : List Int) (b4 : List Int) (b5 : List Int) (b6 : List Int) : Option (Ty7) :=
 bif (decide (t18 < 8)) then
 bif decide (0 ≤ t18 ∧ t18 < 8) then
 bif decide (0 ≤ t18 ∧ t18 < 8) then
 bif decide (0 ≤ t18 ∧ t18 < 8) then
 rec ((IntKind.wrap .i64 (t18 + 1)), b0_0, b0_1, b2_0, b2_1, b4, b5, (setD b6 (Int.toNat t18) (IntKind.wrap .u32 ((List.getD b6 (Int.toNat t18) 0) + (List.getD b4 (Int.toNat t18) 0)))))
 else
 none
 else
 none
 else
 none
 else
 some (b0_0, b0_1, b2_0, b2_1, b5, b6)
def s6 (K : Nat) (rec : Ty4 → Option (Ty7)) (x : Ty4) : Option (Ty7) := s6t K rec x.1 x.2.1 x.2.2.1 x.2.2.2.1 x.2.2.2.2.1 x.2.2.2.2.2.1 x.2.2.2.2.2.2.1 x.2.2.2.2.2.2.2
noncomputable def s6.b : Code := (findLoop 6 c).getD .skip
def s6.h : Hint := { lv := [3, 6, 12, 18] }
def s6.ho : Hint := { lv := [6, 12] }
def s6.shp (x : Ty4) : VS := ⟨[(3, .ptr 4 0), (6, .ptr 5 0), (12, .ptr 6 0), (18, .int .i64 x.1)], [(0, ([.ints .u8 x.2.1 x.2.2.1], 0, .ro)), (2, ([.ints .u32 x.2.2.2.1 x.2.2.2.2.1], 0, .ro)), (4, ([.ints .u32 8 x.2.2.2.2.2.1], 119, .norm)), (5, ([.ints .u32 8 x.2.2.2.2.2.2.1], 119, .norm)), (6, ([.ints .u32 8 x.2.2.2.2.2.2.2], 119, .norm))], 7⟩
def s6.inX : VS → Option (Ty4)
 | ⟨[(3, .ptr 4 0), (6, .ptr 5 0), (12, .ptr 6 0), (18, .int .i64 t18)], [(0, ([.ints .u8 b0_0 b0_1], 0, .ro)), (2, ([.ints .u32 b2_0 b2_1], 0, .ro)), (4, ([.ints .u32 8 b4], 119, .norm)), (5, ([.ints .u32 8 b5], 119, .norm)), (6, ([.ints .u32 8 b6], 119, .norm))], 7⟩ => some (t18, b0_0, b0_1, b2_0, b2_1, b4, b5, b6)
 | _ => none
def s6.o0 (y : Ty7) : VS := ⟨[(6, .ptr 4 0), (12, .ptr 5 0)], [(0, ([.ints .u8 y.1 y.2.1], 0, .ro)), (2, ([.ints .u32 y.2.2.1 y.2.2.2.1], 0, .ro)), (4, ([.ints .u32 8 y.2.2.2.2.1], 119, .norm)), (5, ([.ints .u32 8 y.2.2.2.2.2], 119, .norm))], 6⟩
def s6.des : ∀ α : Type, (Ty7) → (Ex → VS → Option α) → Option α := (des1 (.exit 6) s6.o0)
def s6.out : Ty7 → Ex × VS := (fun y => (.exit 6, s6.o0 y))
theorem s6.desOK : ∀ α y (k : Ex → VS → Option α), s6.des α y k = k (s6.out y).1 (s6.out y).2 := (fun _ _ _ => rfl)
def s6.inY : Ex → VS → Option (Ty7)
 | .exit 6, ⟨[(6, .ptr 4 0), (12, .ptr 5 0)], [(0, ([.ints .u8 b0_0 b0_1], 0, .ro)), (2, ([.ints .u32 b2_0 b2_1], 0, .ro)), (4, ([.ints .u32 8 b4], 119, .norm)), (5, ([.ints .u32 8 b5], 119, .norm))], 6⟩ => some (b0_0, b0_1, b2_0, b2_1, b4, b5)
 | _, _ => none
def lp (K : Nat) : Nat → Option (Hint × Summ) := tabLp [(0, s0.h, summOf (iter (s0 K) K) s0.inX s0.des), (2, s2.h, summOf (iter (s2 K) K) s2.inX s2.des), (4, s4.h, summOf (iter (s4 K) K) s4.inX s4.des), (6, s6.h, summOf (iter (s6 K) K) s6.inX s6.des)]
noncomputable def tab (K : Nat) : List (Nat × Entry) := [(112, (f112.E K))]
theorem tabOK (K : Nat) : SpecOK Tryz.prog (tabSp (tab K)) := tab_ok ((tab_cons (f112.ok K) tab_nil))
theorem s0.eq (K : Nat) (rec : Ty1 → Option (Ty3)) (x : Ty1) : s0 K rec x = roundL (getA tys) (tabSp (tab K)) 195 4 (lp K) 400 s0.b s0.h s0.ho s0.shp s0.inX s0.inY rec x := by kernel_rfl
theorem s0.lok (K : Nat) : LoopsOK Tryz.prog 195 4 (lp K) s0.b := loops_ok (by
  have h : loopsIn (lp K) s0.b = [] := by kernel_rfl
  rw [h]; simp)
theorem s0.ok (K : Nat) : SummOK Tryz.prog 195 4 (summOf (iter (s0 K) K) s0.inX s0.des) s0.b :=
  loop_ok mix tys_ok (tabOK K) (h := s0.h) (ho := s0.ho) (shp := s0.shp) (inX := s0.inX) (des := s0.des) (out := s0.out) (inY := s0.inY) (fuel := 400)
    (by intro st x h; unfold s0.inX at h; split at h <;> simp at h; subst h; rfl)
    (by intro e st y h; unfold s0.inY at h; split at h <;> simp at h <;> subst h <;> rfl)
    s0.desOK (s0.lok K) (s0 K) (s0.eq K) K
theorem s2.eq (K : Nat) (rec : Ty2 → Option (Ty3)) (x : Ty2) : s2 K rec x = roundL (getA tys) (tabSp (tab K)) 195 4 (lp K) 400 s2.b s2.h s2.ho s2.shp s2.inX s2.inY rec x := by kernel_rfl
theorem s2.lok (K : Nat) : LoopsOK Tryz.prog 195 4 (lp K) s2.b := loops_ok (by
  have h : loopsIn (lp K) s2.b = [] := by kernel_rfl
  rw [h]; simp)
theorem s2.ok (K : Nat) : SummOK Tryz.prog 195 4 (summOf (iter (s2 K) K) s2.inX s2.des) s2.b :=
  loop_ok mix tys_ok (tabOK K) (h := s2.h) (ho := s2.ho) (shp := s2.shp) (inX := s2.inX) (des := s2.des) (out := s2.out) (inY := s2.inY) (fuel := 400)
    (by intro st x h; unfold s2.inX at h; split at h <;> simp at h; subst h; rfl)
    (by intro e st y h; unfold s2.inY at h; split at h <;> simp at h <;> subst h <;> rfl)
    s2.desOK (s2.lok K) (s2 K) (s2.eq K) K
theorem s4.eq (K : Nat) (rec : Ty0 → Option (Ty5)) (x : Ty0) : s4 K rec x = roundL (getA tys) (tabSp (tab K)) 195 4 (lp K) 400 s4.b s4.h s4.ho s4.shp s4.inX s4.inY rec x := by kernel_rfl
theorem s4.lok (K : Nat) : LoopsOK Tryz.prog 195 4 (lp K) s4.b := loops_ok (by
  have h : loopsIn (lp K) s4.b = [] := by kernel_rfl
  rw [h]; simp)
theorem s4.ok (K : Nat) : SummOK Tryz.prog 195 4 (summOf (iter (s4 K) K) s4.inX s4.des) s4.b :=
  loop_ok mix tys_ok (tabOK K) (h := s4.h) (ho := s4.ho) (shp := s4.shp) (inX := s4.inX) (des := s4.des) (out := s4.out) (inY := s4.inY) (fuel := 400)
    (by intro st x h; unfold s4.inX at h; split at h <;> simp at h; subst h; rfl)
    (by intro e st y h; unfold s4.inY at h; split at h <;> simp at h <;> subst h <;> rfl)
    s4.desOK (s4.lok K) (s4 K) (s4.eq K) K
theorem s6.eq (K : Nat) (rec : Ty4 → Option (Ty7)) (x : Ty4) : s6 K rec x = roundL (getA tys) (tabSp (tab K)) 195 4 (lp K) 400 s6.b s6.h s6.ho s6.shp s6.inX s6.inY rec x := by kernel_rfl
theorem s6.lok (K : Nat) : LoopsOK Tryz.prog 195 4 (lp K) s6.b := loops_ok (by
  have h : loopsIn (lp K) s6.b = [] := by kernel_rfl
  rw [h]; simp)
theorem s6.ok (K : Nat) : SummOK Tryz.prog 195 4 (summOf (iter (s6 K) K) s6.inX s6.des) s6.b :=
  loop_ok mix tys_ok (tabOK K) (h := s6.h) (ho := s6.ho) (shp := s6.shp) (inX := s6.inX) (des := s6.des) (out := s6.out) (inY := s6.inY) (fuel := 400)
    (by intro st x h; unfold s6.inX at h; split at h <;> simp at h; subst h; rfl)
    (by intro e st y h; unfold s6.inY at h; split at h <;> simp at h <;> subst h <;> rfl)
    s6.desOK (s6.lok K) (s6 K) (s6.eq K) K
theorem loops (K : Nat) : LoopsOK Tryz.prog 195 4 (lp K) c := loops_ok (by
  have h : loopsIn (lp K) c = [(0, s0.b), (2, s2.b), (4, s4.b), (6, s6.b)] := by kernel_rfl
  rw [h]
  intro p hp
  simp only [List.mem_cons, List.not_mem_nil, or_false] at hp
  rcases hp with rfl | rfl | rfl | rfl
  · exact ⟨_, rfl, (s0.ok K)⟩
  · exact ⟨_, rfl, (s2.ok K)⟩
  · exact ⟨_, rfl, (s4.ok K)⟩
  · exact ⟨_, rfl, (s6.ok K)⟩)
def T (K : Nat) (a0 : List Int) (a1 : Nat) (a2 : Nat) (m0_0 : Nat) (m0_1 : List Int) (m2_0 : Nat) (m2_1 : List Int) : Option (Ty8) :=
 (iter (s0 K) K (a1, a2, 0, m0_0, m0_1, m2_0, m2_1, a0, [0, 0, 0, 0, 0, 0, 0, 0], [0, 0, 0, 0, 0, 0, 0, 0, 0, 0, 0, 0, 0, 0, 0, 0, 0, 0, 0, 0, 0, 0, 0, 0, 0, 0, 0, 0, 0, 0, 0, 0, 0, 0, 0, 0, 0, 0, 0, 0, 0, 0, 0, 0, 0, 0, 0, 0, 0, 0, 0, 0, 0, 0, 0, 0, 0, 0, 0, 0, 0, 0, 0, 0])).bind fun y30 =>
 (iter (s2 K) K (y30.1, 16, y30.2.1, y30.2.2.1, y30.2.2.2.1, y30.2.2.2.2.1, y30.2.2.2.2.2.1, y30.2.2.2.2.2.2.1, y30.2.2.2.2.2.2.2)).bind fun y60 =>
 (iter (s4 K) K (y60.1, 0, y60.2.1, y60.2.2.1, y60.2.2.2.1, y60.2.2.2.2.1, y60.2.2.2.2.2.1, y60.2.2.2.2.2.2.1, y60.2.2.2.2.2.2.2, y60.2.2.2.2.2.1)).bind fun y108 =>
 (iter (s6 K) K (0, y108.1, y108.2.1, y108.2.2.1, y108.2.2.2.1, y108.2.2.2.2.1, y108.2.2.2.2.2.1, y108.2.2.2.2.2.2)).bind fun y118 =>
 some (y118.2.2.2.2.2, y118.1, y118.2.1, y118.2.2.1, y118.2.2.2.1)
def F (K : Nat) (x : Ty6) : Option (Ty8) := T K x.1 x.2.1 x.2.2.1 x.2.2.2.1 x.2.2.2.2.1 x.2.2.2.2.2.1 x.2.2.2.2.2.2
def av (x : Ty6) : List VV := [.agg [.ints .u32 8 x.1], .vw true 0 0 x.2.1 1, .vw true 2 0 x.2.2.1 3]
def bl (x : Ty6) : List (Nat × Blk) := [(0, ([.ints .u8 x.2.2.2.1 x.2.2.2.2.1], 0, .ro)), (2, ([.ints .u32 x.2.2.2.2.2.1 x.2.2.2.2.2.2], 0, .ro))]
def inA : VS → Option (Ty6)
 | ⟨[(0, .agg [.ints .u32 8 a0]), (1, .vw true 0 0 a1 1), (2, .vw true 2 0 a2 3)], [(0, ([.ints .u8 m0_0 m0_1], 0, .ro)), (2, ([.ints .u32 m2_0 m2_1], 0, .ro))], 4⟩ => some (a0, a1, a2, m0_0, m0_1, m2_0, m2_1)
 | _ => none
def o0 (y : Ty8) : VS := ⟨[(0, .agg [.ints .u32 8 y.1])], [(0, ([.ints .u8 y.2.1 y.2.2.1], 0, .ro)), (2, ([.ints .u32 y.2.2.2.1 y.2.2.2.2], 0, .ro))], 4⟩
def des : ∀ α : Type, (Ty8) → (VS → Option α) → Option α := (dv1 o0)
def out : Ty8 → VS := o0
def inR : VS → Option (Ty8)
 | ⟨[(0, .agg [.ints .u32 8 y])], [(0, ([.ints .u8 z0_0 z0_1], 0, .ro)), (2, ([.ints .u32 z2_0 z2_1], 0, .ro))], 4⟩ => some (y, z0_0, z0_1, z2_0, z2_1)
 | _ => none
noncomputable def E (K : Nat) : Entry := genE 4 inA (F K) des
theorem eq (K : Nat) (x : Ty6) : F K x = xrun (getA tys) (tabSp (tab K)) Tryz.f104.ntmps 4 (lp K) 400 c ⟨initL 0 (av x), bl x, 4⟩ (contF (getA tys) 4 Tryz.f104.results.toList inR) := by kernel_rfl
theorem ok (K : Nat) : EntryOK Tryz.prog 104 (E K) :=
  gen_ok mix tys_ok (tabOK K) Tryz.func104 (by kernel_rfl : Tryz.f104.body = some c) (by kernel_rfl) (loops K) (av := av) (bl := bl) (out := out) (fuel := 400)
    (by intro s x h; unfold inA at h; split at h <;> simp at h; subst h; rfl) (fun _ => Nat.le_of_ble_eq_true rfl)
    (by intro s y h; unfold inR at h; split at h <;> simp at h <;> subst h <;> rfl) (fun _ _ _ => rfl) (eq K)
end f104
end Go.Proofs

namespace Go.Proofs
open Go.VM
theorem f112.spec (K : Nat) (x : Int) (n : Nat) (h1 : 1 ≤ n) (h2 : n ≤ 31) : f112.F K (x, (n : Int)) = some (Rf.round x n) := by
  simp only [f112.F, f112.T]
  rw [decide_eq_true (show (0 : Int) ≤ (n : Int) by omega), cond_t, wrap_u _ (by omega) (by omega), decide_eq_true (show (0 : Int) ≤ 32 - (n : Int) by omega), cond_t, Rf.round, show (32 : Int) - (n : Int) = ((32 - n : Nat) : Int) by omega]
theorem four_octets (a b c d : Nat) (ha : a < 256) (hb : b < 256) (hc : c < 256) (hd : d < 256) :
    bits .or .u32 (bits .or .u32 (bits .or .u32 (IntKind.wrap .u32 ((IntKind.wrap .u32 (a : Int)) * 2 ^ 24)) (IntKind.wrap .u32 ((IntKind.wrap .u32 (b : Int)) * 2 ^ 16))) (IntKind.wrap .u32 ((IntKind.wrap .u32 (c : Int)) * 2 ^ 8))) (IntKind.wrap .u32 (d : Int)) = ((a * 2 ^ 24 + b * 2 ^ 16 + c * 2 ^ 8 + d : Nat) : Int) := by
  have w : ∀ z : Nat, z < 4294967296 → IntKind.wrap .u32 (z : Int) = (z : Int) := wrap_32n
  have o : ∀ x y : Nat, x < 4294967296 → y < 4294967296 → bits .or .u32 (x : Int) (y : Int) = ((x ||| y : Nat) : Int) := by
    intro x y hx hy
    rw [bits_or, BitVec.toNat_or]
    simp only [bv, BitVec.ofInt_natCast, BitVec.toNat_ofNat]
    rw [Nat.mod_eq_of_lt (by omega), Nat.mod_eq_of_lt (by omega)]
  have oa : ∀ x y k : Nat, y < 2 ^ k → x * 2 ^ k ||| y = x * 2 ^ k + y := fun x y k h => by
    have := Nat.shiftLeft_add_eq_or_of_lt h x
    rw [Nat.shiftLeft_eq] at this
    exact this.symm
  rw [w a (by omega), w b (by omega), w c (by omega), w d (by omega), show (a : Int) * 2 ^ 24 = ((a * 2 ^ 24 : Nat) : Int) by omega, show (b : Int) * 2 ^ 16 = ((b * 2 ^ 16 : Nat) : Int) by omega, show (c : Int) * 2 ^ 8 = ((c * 2 ^ 8 : Nat) : Int) by omega,
    w _ (by omega), w _ (by omega), w _ (by omega), o _ _ (by omega) (by omega), oa a (b * 2 ^ 16) 24 (by omega), show a * 2 ^ 24 + b * 2 ^ 16 = (a * 2 ^ 8 + b) * 2 ^ 16 by omega, o _ _ (by omega) (by omega), oa _ (c * 2 ^ 8) 16 (by omega),
    show (a * 2 ^ 8 + b) * 2 ^ 16 + c * 2 ^ 8 = ((a * 2 ^ 8 + b) * 2 ^ 8 + c) * 2 ^ 8 by omega, o _ _ (by omega) (by omega), oa _ d 8 (by omega)]
theorem getD_oct {b : List Int} (ho : octets b) (i : Nat) : ∃ n : Nat, n < 256 ∧ b.getD i 0 = (n : Int) := by
  rw [List.getD_eq_getElem?_getD]
  cases e : b[i]? with
  | none => exact ⟨0, by decide, rfl⟩
  | some y => obtain ⟨h1, h2⟩ := ho y (List.mem_of_getElem? e); exact ⟨y.toNat, by omega, by simp; omega⟩
theorem tv_four (b : List Int) (ho : octets b) (t : Nat) : ((tv (subI b (4 * t) 4) : Nat) : Int) = ((( (b.getD (4 * t) 0).toNat * 2 ^ 24 + (b.getD (4 * t + 1) 0).toNat * 2 ^ 16 + (b.getD (4 * t + 2) 0).toNat * 2 ^ 8 + (b.getD (4 * t + 3) 0).toNat : Nat)) : Int) := by
  simp only [subI, List.range, List.range.loop, List.map_cons, List.map_nil, tv, List.foldl_cons, List.foldl_nil, Nat.add_zero]
  congr 1
  omega
def Rf.tab (b : List Int) (i : Nat) : List Int := (List.range 64).map fun k => if k < i then Rf.w b k else 0
theorem Rf.tab_at (b : List Int) (i k : Nat) (hk : k < 64) (hi : k < i) : (Rf.tab b i).getD k 0 = Rf.w b k := by
  simp [Rf.tab, List.getD_eq_getElem?_getD, hk, hi]
theorem Rf.tab_set (b : List Int) (i : Nat) (hi : i < 64) : setD (Rf.tab b i) i (Rf.w b i) = Rf.tab b (i + 1) := by
  have hl : ∀ j, (Rf.tab b j).length = 64 := fun j => by simp [Rf.tab]
  refine ext_getD (by rw [length_setD (by rw [hl]; exact hi), hl, hl]) fun k hk => ?_
  rw [length_setD (by rw [hl]; exact hi), hl] at hk
  rw [setD_at _ _ _ _ (by rw [hl]; exact hi)]
  by_cases h : k = i
  · subst h; rw [if_pos rfl, Rf.tab_at _ _ _ hk (by omega)]
  · rw [if_neg h]
    by_cases h2 : k < i
    · rw [Rf.tab_at _ _ _ hk h2, Rf.tab_at _ _ _ hk (by omega)]
    · simp [Rf.tab, List.getD_eq_getElem?_getD, hk, h2, show ¬ k < i + 1 by omega]
theorem f104.first (K : Nat) (a2 : Nat) (b k4 z5 : List Int) (ho : octets b) (hb : b.length = 64) (hK : 16 < K) (k2 : Nat) (k2l : List Int) :
    iter (f104.s0 K) K (64, a2, 0, 64, b, k2, k2l, k4, z5, Rf.tab b 0) = some (a2, 64, b, k2, k2l, k4, z5, Rf.tab b 16) := by
  have := iter_for (stp := f104.s0 K) (N := 16) (fun i => (64, a2, (i : Int), 64, b, k2, k2l, k4, z5, Rf.tab b i)) (y := some (a2, 64, b, k2, k2l, k4, z5, Rf.tab b 16)) ?_ ?_ hK
  · exact this
  · intro i hi rec
    simp only [f104.s0, f104.s0t]
    have e : ∀ j : Nat, j < 4 → IntKind.wrap .i64 ((IntKind.wrap .i64 (4 * (i : Int))) + (j : Int)) = ((4 * i + j : Nat) : Int) := fun j hj => by
      rw [wrap_i (4 * (i : Int)) (by omega) (by omega), wrap_i _ (by omega) (by omega)]; omega
    have e0 : IntKind.wrap .i64 (4 * (i : Int)) = ((4 * i : Nat) : Int) := by rw [wrap_i _ (by omega) (by omega)]; omega
    have e1 := e 1 (by omega)
    have e2 := e 2 (by omega)
    have e3 := e 3 (by omega)
    rw [show ((1 : Nat) : Int) = 1 from rfl] at e1
    rw [show ((2 : Nat) : Int) = 2 from rfl] at e2
    rw [show ((3 : Nat) : Int) = 3 from rfl] at e3
    have bl : ∀ x, x < 64 → Nat.blt (0 + x) 64 = true := fun x hx => by simp [Nat.blt_eq]; omega
    have dc : ∀ x : Nat, x < 64 → decide ((0 : Int) ≤ (x : Int) ∧ (x : Int) < ((64 : Nat) : Int)) = true := fun x hx => decide_eq_true (by omega)
    obtain ⟨n0, h0, g0⟩ := getD_oct ho (4 * i)
    obtain ⟨n1, h1, g1⟩ := getD_oct ho (4 * i + 1)
    obtain ⟨n2, h2, g2⟩ := getD_oct ho (4 * i + 2)
    obtain ⟨n3, h3, g3⟩ := getD_oct ho (4 * i + 3)
    have hW : Rf.w b i = ((n0 * 2 ^ 24 + n1 * 2 ^ 16 + n2 * 2 ^ 8 + n3 : Nat) : Int) := by
      rw [Rf.w_low b i hi, tv_four b ho, g0, g1, g2, g3]
      simp only [Int.toNat_natCast]
      exact wrap_32n _ (by omega)
    simp only [e1, e2, e3]
    rw [decide_eq_true (show (i : Int) < 16 by omega), cond_t]
    simp only [e0, Int.toNat_natCast]
    rw [dc _ (by omega), cond_t, bl _ (by omega), cond_t, dc _ (by omega), cond_t, bl _ (by omega), cond_t, dc _ (by omega), cond_t, bl _ (by omega), cond_t, dc _ (by omega), cond_t, bl _ (by omega), cond_t, decide_eq_true (show (0 : Int) ≤ (i : Int) ∧ (i : Int) < 64 by omega), cond_t]
    simp only [Nat.zero_add]
    rw [g0, g1, g2, g3, four_octets _ _ _ _ h0 h1 h2 h3, ← hW, Rf.tab_set b i (by omega), wrap_i _ (by omega) (by omega)]
    rfl
  · intro rec
    simp only [f104.s0, f104.s0t]
    rfl
theorem f104.second (K : Nat) (a2 : Nat) (b k4 z5 : List Int) (hK : 64 < K) (k2 : Nat) (k2l : List Int) :
    iter (f104.s2 K) K (a2, 16, 64, b, k2, k2l, k4, z5, Rf.tab b 16) = some (a2, 64, b, k2, k2l, k4, z5, Rf.tab b 64) := by
  have := iter_for (stp := f104.s2 K) (N := 48) (fun i => (a2, ((16 + i : Nat) : Int), 64, b, k2, k2l, k4, z5, Rf.tab b (16 + i))) (y := some (a2, 64, b, k2, k2l, k4, z5, Rf.tab b 64)) ?_ ?_ (show 48 < K by omega)
  · exact this
  · intro j hj rec
    generalize hi : 16 + j = i
    rw [show 16 + (j + 1) = i + 1 by omega]
    simp only [f104.s2, f104.s2t]
    have e : ∀ j : Nat, j ≤ 16 → IntKind.wrap .i64 ((i : Int) - (j : Int)) = ((i - j : Nat) : Int) := fun j hj => by rw [wrap_i _ (by omega) (by omega)]; omega
    have e15 := e 15 (by omega)
    have e2 := e 2 (by omega)
    have e16 := e 16 (by omega)
    have e7 := e 7 (by omega)
    rw [show ((15 : Nat) : Int) = 15 from rfl] at e15
    rw [show ((2 : Nat) : Int) = 2 from rfl] at e2
    rw [show ((16 : Nat) : Int) = 16 from rfl] at e16
    rw [show ((7 : Nat) : Int) = 7 from rfl] at e7
    have dc : ∀ x : Nat, x < 64 → decide ((0 : Int) ≤ (x : Int) ∧ (x : Int) < 64) = true := fun x hx => decide_eq_true (by omega)
    simp only [e15, e2, e16, e7, Int.toNat_natCast]
    rw [decide_eq_true (show (i : Int) < 64 by omega), cond_t, dc _ (by omega), cond_t, dc _ (by omega), cond_t, dc _ (by omega), cond_t, dc _ (by omega), cond_t]
    rw [show ((18 : Int)) = ((18 : Nat) : Int) from rfl, show ((17 : Int)) = ((17 : Nat) : Int) from rfl, show ((19 : Int)) = ((19 : Nat) : Int) from rfl]
    rw [show ∀ x, f112.F K (x, 7) = some (Rf.round x 7) from fun x => f112.spec K x 7 (by omega) (by omega), bind_s, f112.spec K _ 18 (by omega) (by omega), bind_s, f112.spec K _ 17 (by omega) (by omega), bind_s, f112.spec K _ 19 (by omega) (by omega), bind_s, dc _ (by omega), cond_t,
      Rf.tab_at b i (i - 15) (by omega) (by omega), Rf.tab_at b i (i - 2) (by omega) (by omega), Rf.tab_at b i (i - 16) (by omega) (by omega), Rf.tab_at b i (i - 7) (by omega) (by omega)]
    have hW := Rf.w_high b i (by omega)
    unfold Rf.s0 Rf.s1 at hW
    rw [← hW, Rf.tab_set b i (by omega), wrap_i _ (by omega) (by omega)]
    rfl
  · intro rec
    simp only [f104.s2, f104.s2t]
    rfl
end Go.Proofs

namespace Go.Proofs
open Go.VM
namespace f91
abbrev Ty0 := Nat × Int × Nat × List Int × List Int × Nat × List Int × List Int × List Int
abbrev Ty1 := Nat × Int × Int × Nat × List Int × List Int × Nat × List Int
abbrev Ty2 := Nat × Nat × Nat × List Int × List Int × Nat × List Int
abbrev Ty3 := Int × Nat × List Int × List Int × List Int × List Int
abbrev Ty4 := Nat × Nat × List Int × List Int × Nat × List Int
abbrev Ty5 := Nat × List Int × List Int × List Int
abbrev Ty6 := List Int × Nat × List Int
abbrev Ty7 := Nat × Nat × List Int
noncomputable def c : Code := bodyOf Tryz.f91
def s0t (_K : Nat) (rec : Ty2 → Option (Ty2)) (t0 : Nat) (t3 : Nat) (b0_0 : Nat) (b0_1 : List Int) (b2 : List Int) (b3_0 : Nat) (b3_1 : List Int) : Option (Ty2) :=
 bif ((Int.tmod ((t3 : Nat) : Int) 64) != 56) then
 bif (Nat.ble t3 b3_0 && (fitB ((t3 + 1) * 1))) then
 rec (t0, (t3 + 1), b0_0, b0_1, b2, (t3 + 1), ((padT b3_1 t3) ++ [0]))
 else
 none
 else
 some (t0, t3, b0_0, b0_1, b2, b3_0, b3_1)
def s0 (K : Nat) (rec : Ty2 → Option (Ty2)) (x : Ty2) : Option (Ty2) := s0t K rec x.1 x.2.1 x.2.2.1 x.2.2.2.1 x.2.2.2.2.1 x.2.2.2.2.2.1 x.2.2.2.2.2.2
noncomputable def s0.b : Code := (findLoop 0 c).getD .skip
def s0.h : Hint := { lv := [0, 2, 3] }
def s0.ho : Hint := { lv := [0, 2, 3] }
def s0.shp (x : Ty2) : VS := ⟨[(0, .vw true 0 0 x.1 1), (2, .ptr 2 0), (3, .vec 3 0 x.2.1 4)], [(0, ([.ints .u8 x.2.2.1 x.2.2.2.1], 0, .ro)), (2, ([.ints .u8 32 x.2.2.2.2.1], 28, .norm)), (3, ([.ints .u8 x.2.2.2.2.2.1 x.2.2.2.2.2.2], 5, .vec 4))], 5⟩
def s0.inX : VS → Option (Ty2)
 | ⟨[(0, .vw true 0 0 t0 1), (2, .ptr 2 0), (3, .vec 3 0 t3 4)], [(0, ([.ints .u8 b0_0 b0_1], 0, .ro)), (2, ([.ints .u8 32 b2], 28, .norm)), (3, ([.ints .u8 b3_0 b3_1], 5, .vec 4))], 5⟩ => some (t0, t3, b0_0, b0_1, b2, b3_0, b3_1)
 | _ => none
def s0.o0 (y : Ty2) : VS := ⟨[(0, .vw true 0 0 y.1 1), (2, .ptr 2 0), (3, .vec 3 0 y.2.1 4)], [(0, ([.ints .u8 y.2.2.1 y.2.2.2.1], 0, .ro)), (2, ([.ints .u8 32 y.2.2.2.2.1], 28, .norm)), (3, ([.ints .u8 y.2.2.2.2.2.1 y.2.2.2.2.2.2], 5, .vec 4))], 5⟩
def s0.des : ∀ α : Type, (Ty2) → (Ex → VS → Option α) → Option α := (des1 (.exit 0) s0.o0)
def s0.out : Ty2 → Ex × VS := (fun y => (.exit 0, s0.o0 y))
theorem s0.desOK : ∀ α y (k : Ex → VS → Option α), s0.des α y k = k (s0.out y).1 (s0.out y).2 := (fun _ _ _ => rfl)
def s0.inY : Ex → VS → Option (Ty2)
 | .exit 0, ⟨[(0, .vw true 0 0 t0 1), (2, .ptr 2 0), (3, .vec 3 0 t3 4)], [(0, ([.ints .u8 b0_0 b0_1], 0, .ro)), (2, ([.ints .u8 32 b2], 28, .norm)), (3, ([.ints .u8 b3_0 b3_1], 5, .vec 4))], 5⟩ => some (t0, t3, b0_0, b0_1, b2, b3_0, b3_1)
 | _, _ => none
def s2t (_K : Nat) (rec : Ty1 → Option (Ty4)) (t3 : Nat) (t4 : Int) (t5 : Int) (b0_0 : Nat) (b0_1 : List Int) (b2 : List Int) (b3_0 : Nat) (b3_1 : List Int) : Option (Ty4) :=
 bif (decide (t5 < 8)) then
 let v12 := IntKind.wrap .i64 (56 - (IntKind.wrap .i64 (8 * t5)))
 bif decide (0 ≤ v12) then
 bif (Nat.ble t3 b3_0 && (fitB ((t3 + 1) * 1))) then
 rec ((t3 + 1), t4, (IntKind.wrap .i64 (t5 + 1)), b0_0, b0_1, b2, (t3 + 1), ((padT b3_1 t3) ++ [(IntKind.wrap .u8 (shiftI .shr .u64 t4 v12))]))
 else
 none
 else
 none
 else
 some (t3, b0_0, b0_1, b2, b3_0, b3_1)
def s2 (K : Nat) (rec : Ty1 → Option (Ty4)) (x : Ty1) : Option (Ty4) := s2t K rec x.1 x.2.1 x.2.2.1 x.2.2.2.1 x.2.2.2.2.1 x.2.2.2.2.2.1 x.2.2.2.2.2.2.1 x.2.2.2.2.2.2.2
noncomputable def s2.b : Code := (findLoop 2 c).getD .skip
def s2.h : Hint := { lv := [2, 3, 4, 5] }
def s2.ho : Hint := { lv := [2, 3] }
def s2.shp (x : Ty1) : VS := ⟨[(2, .ptr 2 0), (3, .vec 3 0 x.1 4), (4, .int .u64 x.2.1), (5, .int .i64 x.2.2.1)], [(0, ([.ints .u8 x.2.2.2.1 x.2.2.2.2.1], 0, .ro)), (2, ([.ints .u8 32 x.2.2.2.2.2.1], 28, .norm)), (3, ([.ints .u8 x.2.2.2.2.2.2.1 x.2.2.2.2.2.2.2], 5, .vec 4))], 5⟩
def s2.inX : VS → Option (Ty1)
 | ⟨[(2, .ptr 2 0), (3, .vec 3 0 t3 4), (4, .int .u64 t4), (5, .int .i64 t5)], [(0, ([.ints .u8 b0_0 b0_1], 0, .ro)), (2, ([.ints .u8 32 b2], 28, .norm)), (3, ([.ints .u8 b3_0 b3_1], 5, .vec 4))], 5⟩ => some (t3, t4, t5, b0_0, b0_1, b2, b3_0, b3_1)
 | _ => none
def s2.o0 (y : Ty4) : VS := ⟨[(2, .ptr 2 0), (3, .vec 3 0 y.1 4)], [(0, ([.ints .u8 y.2.1 y.2.2.1], 0, .ro)), (2, ([.ints .u8 32 y.2.2.2.1], 28, .norm)), (3, ([.ints .u8 y.2.2.2.2.1 y.2.2.2.2.2], 5, .vec 4))], 5⟩
def s2.des : ∀ α : Type, (Ty4) → (Ex → VS → Option α) → Option α := (des1 (.exit 2) s2.o0)
def s2.out : Ty4 → Ex × VS := (fun y => (.exit 2, s2.o0 y))
theorem s2.desOK : ∀ α y (k : Ex → VS → Option α), s2.des α y k = k (s2.out y).1 (s2.out y).2 := (fun _ _ _ => rfl)
def s2.inY : Ex → VS → Option (Ty4)
 | .exit 2, ⟨[(2, .ptr 2 0), (3, .vec 3 0 t3 4)], [(0, ([.ints .u8 b0_0 b0_1], 0, .ro)), (2, ([.ints .u8 32 b2], 28, .norm)), (3, ([.ints .u8 b3_0 b3_1], 5, .vec 4))], 5⟩ => some (t3, b0_0, b0_1, b2, b3_0, b3_1)
 | _, _ => none
def s4t (K : Nat) (rec : Ty0 → Option (Ty5)) (t3 : Nat) (t8 : Int) (b0_0 : Nat) (b0_1 : List Int) (b2 : List Int) (b3_0 : Nat) (b3_1 : List Int) (b5 : List Int) (b6 : List Int) : Option (Ty5) :=
 bif (decide (t8 < ((t3 : Nat) : Int))) then
 let v21 := IntKind.wrap .i64 (t8 + 64)
 bif ((decide (0 ≤ v21 ∧ v21 ≤ ((t3 : Nat) : Int)) && (decide (0 ≤ t8 ∧ t8 ≤ ((Int.toNat v21 : Nat) : Int)))) && (Nat.ble (0 + t3) b3_0)) then
 let v22 := 0 + (Int.toNat t8)
 let v23 := (Int.toNat v21) - (Int.toNat t8)
 bif ((Nat.ble (v22 + v23) b3_0 && true) && true) then
 (f104.F K (b5, v23, 64, v23, (subI b3_1 v22 v23), 64, (subI b6 0 64))).bind fun y24 =>
 rec (t3, (IntKind.wrap .i64 (t8 + 64)), b0_0, b0_1, b2, b3_0, b3_1, y24.1, b6)
 else
 none
 else
 none
 else
 some (b0_0, b0_1, b2, b5)
def s4 (K : Nat) (rec : Ty0 → Option (Ty5)) (x : Ty0) : Option (Ty5) := s4t K rec x.1 x.2.1 x.2.2.1 x.2.2.2.1 x.2.2.2.2.1 x.2.2.2.2.2.1 x.2.2.2.2.2.2.1 x.2.2.2.2.2.2.2.1 x.2.2.2.2.2.2.2.2
noncomputable def s4.b : Code := (findLoop 4 c).getD .skip
def s4.h : Hint := { lv := [2, 3, 6, 7, 8] }
def s4.ho : Hint := { lv := [2, 6] }
def s4.shp (x : Ty0) : VS := ⟨[(2, .ptr 2 0), (3, .vec 3 0 x.1 4), (6, .ptr 5 0), (7, .sl 6 0 64 64), (8, .int .i64 x.2.1)], [(0, ([.ints .u8 x.2.2.1 x.2.2.2.1], 0, .ro)), (2, ([.ints .u8 32 x.2.2.2.2.1], 28, .norm)), (3, ([.ints .u8 x.2.2.2.2.2.1 x.2.2.2.2.2.2.1], 5, .vec 4)), (5, ([.ints .u32 8 x.2.2.2.2.2.2.2.1], 119, .norm)), (6, ([.ints .u32 64 x.2.2.2.2.2.2.2.2], 118, .norm))], 7⟩
def s4.inX : VS → Option (Ty0)
 | ⟨[(2, .ptr 2 0), (3, .vec 3 0 t3 4), (6, .ptr 5 0), (7, .sl 6 0 64 64), (8, .int .i64 t8)], [(0, ([.ints .u8 b0_0 b0_1], 0, .ro)), (2, ([.ints .u8 32 b2], 28, .norm)), (3, ([.ints .u8 b3_0 b3_1], 5, .vec 4)), (5, ([.ints .u32 8 b5], 119, .norm)), (6, ([.ints .u32 64 b6], 118, .norm))], 7⟩ => some (t3, t8, b0_0, b0_1, b2, b3_0, b3_1, b5, b6)
 | _ => none
def s4.o0 (y : Ty5) : VS := ⟨[(2, .ptr 2 0), (6, .ptr 3 0)], [(0, ([.ints .u8 y.1 y.2.1], 0, .ro)), (2, ([.ints .u8 32 y.2.2.1], 28, .norm)), (3, ([.ints .u32 8 y.2.2.2], 119, .norm))], 4⟩
def s4.des : ∀ α : Type, (Ty5) → (Ex → VS → Option α) → Option α := (des1 (.exit 4) s4.o0)
def s4.out : Ty5 → Ex × VS := (fun y => (.exit 4, s4.o0 y))
theorem s4.desOK : ∀ α y (k : Ex → VS → Option α), s4.des α y k = k (s4.out y).1 (s4.out y).2 := (fun _ _ _ => rfl)
def s4.inY : Ex → VS → Option (Ty5)
 | .exit 4, ⟨[(2, .ptr 2 0), (6, .ptr 3 0)], [(0, ([.ints .u8 b0_0 b0_1], 0, .ro)), (2, ([.ints .u8 32 b2], 28, .norm)), (3, ([.ints .u32 8 b3], 119, .norm))], 4⟩ => some (b0_0, b0_1, b2, b3)
 | _, _ => none
def s6t (_K : Nat) (rec : Ty3 → Option (Ty5)) (t10 : Int) (b0_0 : Nat) (b0_1 : List Int) (b2 : List Int) (b3 : List Int) (b4 : List Int) : Option (Ty5) :=
 bif (decide (t10 < 32)) then
 let v28 := IntKind.wrap .i64 (Int.tdiv t10 4)
 bif decide (0 ≤ v28 ∧ v28 < 8) then
 let v33 := IntKind.wrap .i64 (24 - (IntKind.wrap .i64 (8 * (Int.tmod t10 4))))
 bif decide (0 ≤ v33) then
 bif decide (0 ≤ t10 ∧ t10 < 32) then
 rec ((IntKind.wrap .i64 (t10 + 1)), b0_0, b0_1, b2, b3, (setD b4 (Int.toNat t10) (IntKind.wrap .u8 (shiftI .shr .u32 (List.getD b3 (Int.toNat v28) 0) v33))))
 else
 none
 else
 none
 else
 none
 else
 some (b0_0, b0_1, b2, b4)
def s6 (K : Nat) (rec : Ty3 → Option (Ty5)) (x : Ty3) : Option (Ty5) := s6t K rec x.1 x.2.1 x.2.2.1 x.2.2.2.1 x.2.2.2.2.1 x.2.2.2.2.2
noncomputable def s6.b : Code := (findLoop 6 c).getD .skip
def s6.h : Hint := { lv := [2, 6, 9, 10] }
def s6.ho : Hint := { lv := [2, 9] }
def s6.shp (x : Ty3) : VS := ⟨[(2, .ptr 2 0), (6, .ptr 3 0), (9, .ptr 4 0), (10, .int .i64 x.1)], [(0, ([.ints .u8 x.2.1 x.2.2.1], 0, .ro)), (2, ([.ints .u8 32 x.2.2.2.1], 28, .norm)), (3, ([.ints .u32 8 x.2.2.2.2.1], 119, .norm)), (4, ([.ints .u8 32 x.2.2.2.2.2], 28, .norm))], 5⟩
def s6.inX : VS → Option (Ty3)
 | ⟨[(2, .ptr 2 0), (6, .ptr 3 0), (9, .ptr 4 0), (10, .int .i64 t10)], [(0, ([.ints .u8 b0_0 b0_1], 0, .ro)), (2, ([.ints .u8 32 b2], 28, .norm)), (3, ([.ints .u32 8 b3], 119, .norm)), (4, ([.ints .u8 32 b4], 28, .norm))], 5⟩ => some (t10, b0_0, b0_1, b2, b3, b4)
 | _ => none
def s6.o0 (y : Ty5) : VS := ⟨[(2, .ptr 2 0), (9, .ptr 3 0)], [(0, ([.ints .u8 y.1 y.2.1], 0, .ro)), (2, ([.ints .u8 32 y.2.2.1], 28, .norm)), (3, ([.ints .u8 32 y.2.2.2], 28, .norm))], 4⟩
def s6.des : ∀ α : Type, (Ty5) → (Ex → VS → Option α) → Option α := (des1 (.exit 6) s6.o0)
def s6.out : Ty5 → Ex × VS := (fun y => (.exit 6, s6.o0 y))
theorem s6.desOK : ∀ α y (k : Ex → VS → Option α), s6.des α y k = k (s6.out y).1 (s6.out y).2 := (fun _ _ _ => rfl)
def s6.inY : Ex → VS → Option (Ty5)
 | .exit 6, ⟨[(2, .ptr 2 0), (9, .ptr 3 0)], [(0, ([.ints .u8 b0_0 b0_1], 0, .ro)), (2, ([.ints .u8 32 b2], 28, .norm)), (3, ([.ints .u8 32 b3], 28, .norm))], 4⟩ => some (b0_0, b0_1, b2, b3)
 | _, _ => none
def lp (K : Nat) : Nat → Option (Hint × Summ) := tabLp [(0, s0.h, summOf (iter (s0 K) K) s0.inX s0.des), (2, s2.h, summOf (iter (s2 K) K) s2.inX s2.des), (4, s4.h, summOf (iter (s4 K) K) s4.inX s4.des), (6, s6.h, summOf (iter (s6 K) K) s6.inX s6.des)]
noncomputable def tab (K : Nat) : List (Nat × Entry) := [(103, (f103.E K)), (104, (viewE [(1, .u8), (2, .u32)] (f104.E K)))]
theorem tabOK (K : Nat) : SpecOK Tryz.prog (tabSp (tab K)) := tab_ok ((tab_cons (f103.ok K) (tab_cons (view_ok (f104.ok K)) tab_nil)))
theorem s0.eq (K : Nat) (rec : Ty2 → Option (Ty2)) (x : Ty2) : s0 K rec x = roundL (getA tys) (tabSp (tab K)) 72 2 (lp K) 400 s0.b s0.h s0.ho s0.shp s0.inX s0.inY rec x := by kernel_rfl
theorem s0.lok (K : Nat) : LoopsOK Tryz.prog 72 2 (lp K) s0.b := loops_ok (by
  have h : loopsIn (lp K) s0.b = [] := by kernel_rfl
  rw [h]; simp)
theorem s0.ok (K : Nat) : SummOK Tryz.prog 72 2 (summOf (iter (s0 K) K) s0.inX s0.des) s0.b :=
  loop_ok mix tys_ok (tabOK K) (h := s0.h) (ho := s0.ho) (shp := s0.shp) (inX := s0.inX) (des := s0.des) (out := s0.out) (inY := s0.inY) (fuel := 400)
    (by intro st x h; unfold s0.inX at h; split at h <;> simp at h; subst h; rfl)
    (by intro e st y h; unfold s0.inY at h; split at h <;> simp at h <;> subst h <;> rfl)
    s0.desOK (s0.lok K) (s0 K) (s0.eq K) K
theorem s2.eq (K : Nat) (rec : Ty1 → Option (Ty4)) (x : Ty1) : s2 K rec x = roundL (getA tys) (tabSp (tab K)) 72 2 (lp K) 400 s2.b s2.h s2.ho s2.shp s2.inX s2.inY rec x := by kernel_rfl
theorem s2.lok (K : Nat) : LoopsOK Tryz.prog 72 2 (lp K) s2.b := loops_ok (by
  have h : loopsIn (lp K) s2.b = [] := by kernel_rfl
  rw [h]; simp)
theorem s2.ok (K : Nat) : SummOK Tryz.prog 72 2 (summOf (iter (s2 K) K) s2.inX s2.des) s2.b :=
  loop_ok mix tys_ok (tabOK K) (h := s2.h) (ho := s2.ho) (shp := s2.shp) (inX := s2.inX) (des := s2.des) (out := s2.out) (inY := s2.inY) (fuel := 400)
    (by intro st x h; unfold s2.inX at h; split at h <;> simp at h; subst h; rfl)
    (by intro e st y h; unfold s2.inY at h; split at h <;> simp at h <;> subst h <;> rfl)
    s2.desOK (s2.lok K) (s2 K) (s2.eq K) K
theorem s4.eq (K : Nat) (rec : Ty0 → Option (Ty5)) (x : Ty0) : s4 K rec x = roundL (getA tys) (tabSp (tab K)) 72 2 (lp K) 400 s4.b s4.h s4.ho s4.shp s4.inX s4.inY rec x := by kernel_rfl
theorem s4.lok (K : Nat) : LoopsOK Tryz.prog 72 2 (lp K) s4.b := loops_ok (by
  have h : loopsIn (lp K) s4.b = [] := by kernel_rfl
  rw [h]; simp)
theorem s4.ok (K : Nat) : SummOK Tryz.prog 72 2 (summOf (iter (s4 K) K) s4.inX s4.des) s4.b :=
  loop_ok mix tys_ok (tabOK K) (h := s4.h) (ho := s4.ho) (shp := s4.shp) (inX := s4.inX) (des := s4.des) (out := s4.out) (inY := s4.inY) (fuel := 400)
    (by intro st x h; unfold s4.inX at h; split at h <;> simp at h; subst h; rfl)
    (by intro e st y h; unfold s4.inY at h; split at h <;> simp at h <;> subst h <;> rfl)
    s4.desOK (s4.lok K) (s4 K) (s4.eq K) K
theorem s6.eq (K : Nat) (rec : Ty3 → Option (Ty5)) (x : Ty3) : s6 K rec x = roundL (getA tys) (tabSp (tab K)) 72 2 (lp K) 400 s6.b s6.h s6.ho s6.shp s6.inX s6.inY rec x := by kernel_rfl
theorem s6.lok (K : Nat) : LoopsOK Tryz.prog 72 2 (lp K) s6.b := loops_ok (by
  have h : loopsIn (lp K) s6.b = [] := by kernel_rfl
  rw [h]; simp)
theorem s6.ok (K : Nat) : SummOK Tryz.prog 72 2 (summOf (iter (s6 K) K) s6.inX s6.des) s6.b :=
  loop_ok mix tys_ok (tabOK K) (h := s6.h) (ho := s6.ho) (shp := s6.shp) (inX := s6.inX) (des := s6.des) (out := s6.out) (inY := s6.inY) (fuel := 400)
    (by intro st x h; unfold s6.inX at h; split at h <;> simp at h; subst h; rfl)
    (by intro e st y h; unfold s6.inY at h; split at h <;> simp at h <;> subst h <;> rfl)
    s6.desOK (s6.lok K) (s6 K) (s6.eq K) K
theorem loops (K : Nat) : LoopsOK Tryz.prog 72 2 (lp K) c := loops_ok (by
  have h : loopsIn (lp K) c = [(0, s0.b), (2, s2.b), (4, s4.b), (6, s6.b)] := by kernel_rfl
  rw [h]
  intro p hp
  simp only [List.mem_cons, List.not_mem_nil, or_false] at hp
  rcases hp with rfl | rfl | rfl | rfl
  · exact ⟨_, rfl, (s0.ok K)⟩
  · exact ⟨_, rfl, (s2.ok K)⟩
  · exact ⟨_, rfl, (s4.ok K)⟩
  · exact ⟨_, rfl, (s6.ok K)⟩)
def T (K : Nat) (a0 : Nat) (m0_0 : Nat) (m0_1 : List Int) : Option (Ty6) :=
 bif (Nat.ble (0 + a0) m0_0 && (fitB (a0 * 1))) then
 bif (Nat.ble a0 a0 && (fitB ((a0 + 1) * 1))) then
 (iter (s0 K) K (a0, (a0 + 1), m0_0, m0_1, [0, 0, 0, 0, 0, 0, 0, 0, 0, 0, 0, 0, 0, 0, 0, 0, 0, 0, 0, 0, 0, 0, 0, 0, 0, 0, 0, 0, 0, 0, 0, 0], (a0 + 1), ((padT (subI m0_1 0 a0) a0) ++ [128]))).bind fun y6 =>
 (iter (s2 K) K (y6.2.1, (IntKind.wrap .u64 (8 * (IntKind.wrap .u64 ((y6.1 : Nat) : Int)))), 0, y6.2.2.1, y6.2.2.2.1, y6.2.2.2.2.1, y6.2.2.2.2.2.1, y6.2.2.2.2.2.2)).bind fun y17 =>
 (f103.F K ()).bind fun y18 =>
 (iter (s4 K) K (y17.1, 0, y17.2.1, y17.2.2.1, y17.2.2.2.1, y17.2.2.2.2.1, y17.2.2.2.2.2, [1779033703, 3144134277, 1013904242, 2773480762, 1359893119, 2600822924, 528734635, 1541459225], y18)).bind fun y26 =>
 (iter (s6 K) K (0, y26.1, y26.2.1, y26.2.2.1, y26.2.2.2, [0, 0, 0, 0, 0, 0, 0, 0, 0, 0, 0, 0, 0, 0, 0, 0, 0, 0, 0, 0, 0, 0, 0, 0, 0, 0, 0, 0, 0, 0, 0, 0])).bind fun y39 =>
 some (y39.2.2.2, y39.1, y39.2.1)
 else
 none
 else
 none
def F (K : Nat) (x : Ty7) : Option (Ty6) := T K x.1 x.2.1 x.2.2
def av (x : Ty7) : List VV := [.vw true 0 0 x.1 1]
def bl (x : Ty7) : List (Nat × Blk) := [(0, ([.ints .u8 x.2.1 x.2.2], 0, .ro))]
def inA : VS → Option (Ty7)
 | ⟨[(0, .vw true 0 0 a0 1)], [(0, ([.ints .u8 m0_0 m0_1], 0, .ro))], 2⟩ => some (a0, m0_0, m0_1)
 | _ => none
def o0 (y : Ty6) : VS := ⟨[(0, .agg [.ints .u8 32 y.1])], [(0, ([.ints .u8 y.2.1 y.2.2], 0, .ro))], 2⟩
def des : ∀ α : Type, (Ty6) → (VS → Option α) → Option α := (dv1 o0)
def out : Ty6 → VS := o0
def inR : VS → Option (Ty6)
 | ⟨[(0, .agg [.ints .u8 32 y])], [(0, ([.ints .u8 z0_0 z0_1], 0, .ro))], 2⟩ => some (y, z0_0, z0_1)
 | _ => none
noncomputable def E (K : Nat) : Entry := genE 2 inA (F K) des
theorem eq (K : Nat) (x : Ty7) : F K x = xrun (getA tys) (tabSp (tab K)) Tryz.f91.ntmps 2 (lp K) 400 c ⟨initL 0 (av x), bl x, 2⟩ (contF (getA tys) 2 Tryz.f91.results.toList inR) := by kernel_rfl
theorem ok (K : Nat) : EntryOK Tryz.prog 91 (E K) :=
  gen_ok mix tys_ok (tabOK K) Tryz.func91 (by kernel_rfl : Tryz.f91.body = some c) (by kernel_rfl) (loops K) (av := av) (bl := bl) (out := out) (fuel := 400)
    (by intro s x h; unfold inA at h; split at h <;> simp at h; subst h; rfl) (fun _ => Nat.le_of_ble_eq_true rfl)
    (by intro s y h; unfold inR at h; split at h <;> simp at h <;> subst h <;> rfl) (fun _ _ _ => rfl) (eq K)
end f91
end Go.Proofs

namespace Go.Proofs
open Go.VM
namespace f76
abbrev Ty0 := Nat × Nat × List Int × Int × Int × Nat × Nat × Nat × List Int × Nat × List Int × List Int
abbrev Ty1 := List Int × Int × Int × Nat × Nat × Nat × List Int × Nat × List Int × List Int
abbrev Ty2 := List Int × Int × Int × Nat × Nat × List Int × Nat × List Int × Nat × List Int
noncomputable def c : Code := bodyOf Tryz.f76
def s2t (K : Nat) (rec : Ty0 → Option (Ty1)) (t5_0 : Nat) (t5_1 : Nat) (b0_0 : List Int) (b0_1 : Int) (b0_2 : Int) (b1_0 : Nat) (b1_1 : Nat) (b4_0 : Nat) (b4_1 : List Int) (b6_0 : Nat) (b6_1 : List Int) (b9 : List Int) : Option (Ty1) :=
 bif (decide (((t5_1 : Nat) : Int) > 0)) then
 bif decide (0 ≤ b0_1 ∧ b0_1 ≤ 64) then
 let v6 := bif Nat.beq 64 (Int.toNat b0_1) then 0 else (Int.toNat b0_1)
 let v7 := 64 - (Int.toNat b0_1)
 bif (((Nat.ble (t5_0 + t5_1) b4_0 && true) && (Nat.ble (v6 + v7) 64)) && (Nat.beq t5_1 t5_1)) then
 let v9 := ((Nat.min t5_1 v7 : Nat) : Int)
 let v10 := spl b0_0 v6 (Nat.min t5_1 v7) (subI b4_1 t5_0 t5_1)
 bif decide (0 ≤ v9 ∧ v9 ≤ ((t5_1 : Nat) : Int)) then
 let v11 := t5_0 + (Int.toNat v9)
 let v12 := t5_1 - (Int.toNat v9)
 let v13 := IntKind.wrap .i64 (b0_1 + v9)
 bif (v13 == 64) then
 (f98.F K (b9, v10, v13, b0_2, b9)).bind fun y14 =>
 rec (v11, v12, y14.2.1, 0, y14.2.2.2.1, b1_0, b1_1, b4_0, b4_1, b6_0, b6_1, y14.1)
 else
 rec (v11, v12, v10, v13, b0_2, b1_0, b1_1, b4_0, b4_1, b6_0, b6_1, b9)
 else
 none
 else
 none
 else
 none
 else
 some (b0_0, b0_1, b0_2, b1_0, b1_1, b4_0, b4_1, b6_0, b6_1, b9)
def s2 (K : Nat) (rec : Ty0 → Option (Ty1)) (x : Ty0) : Option (Ty1) := s2t K rec x.1 x.2.1 x.2.2.1 x.2.2.2.1 x.2.2.2.2.1 x.2.2.2.2.2.1 x.2.2.2.2.2.2.1 x.2.2.2.2.2.2.2.1 x.2.2.2.2.2.2.2.2.1 x.2.2.2.2.2.2.2.2.2.1 x.2.2.2.2.2.2.2.2.2.2.1 x.2.2.2.2.2.2.2.2.2.2.2
noncomputable def s2.b : Code := (findLoop 2 c).getD .skip
def s2.h : Hint := { lv := [0, 5, 8, 9, 10], co := [(5, 0, [])], mv := [3] }
def s2.ho : Hint := { lv := [0, 8, 9, 10] }
def s2.shp (x : Ty0) : VS := ⟨[(0, .ptr 0 0), (5, .vw true 4 x.1 x.2.1 8), (8, .vw true 1 0 2 2), (9, .int .i64 2), (10, .int .i64 0)], [(0, ([.ptr 9 0, .ints .u8 64 x.2.2.1, .int .i64 x.2.2.2.1, .int .u64 x.2.2.2.2.1], 125, .norm)), (1, ([.vw true 4 0 x.2.2.2.2.2.1 5, .vw true 6 0 x.2.2.2.2.2.2.1 7], 0, .ro)), (3, ([], 120, .dead)), (4, ([.ints .u8 x.2.2.2.2.2.2.2.1 x.2.2.2.2.2.2.2.2.1], 0, .ro)), (6, ([.ints .u8 x.2.2.2.2.2.2.2.2.2.1 x.2.2.2.2.2.2.2.2.2.2.1], 0, .ro)), (9, ([.ints .u32 8 x.2.2.2.2.2.2.2.2.2.2.2], 120, .norm))], 10⟩
def s2.inX : VS → Option (Ty0)
 | ⟨[(0, .ptr 0 0), (5, .vw true 4 t5_0 t5_1 8), (8, .vw true 1 0 2 2), (9, .int .i64 2), (10, .int .i64 0)], [(0, ([.ptr 9 0, .ints .u8 64 b0_0, .int .i64 b0_1, .int .u64 b0_2], 125, .norm)), (1, ([.vw true 4 0 b1_0 5, .vw true 6 0 b1_1 7], 0, .ro)), (3, ([], 120, .dead)), (4, ([.ints .u8 b4_0 b4_1], 0, .ro)), (6, ([.ints .u8 b6_0 b6_1], 0, .ro)), (9, ([.ints .u32 8 b9], 120, .norm))], 10⟩ => some (t5_0, t5_1, b0_0, b0_1, b0_2, b1_0, b1_1, b4_0, b4_1, b6_0, b6_1, b9)
 | _ => none
def s2.o0 (y : Ty1) : VS := ⟨[(0, .ptr 0 0), (8, .vw true 1 0 2 2), (9, .int .i64 2), (10, .int .i64 0)], [(0, ([.ptr 8 0, .ints .u8 64 y.1, .int .i64 y.2.1, .int .u64 y.2.2.1], 125, .norm)), (1, ([.vw true 4 0 y.2.2.2.1 5, .vw true 6 0 y.2.2.2.2.1 7], 0, .ro)), (3, ([], 120, .dead)), (4, ([.ints .u8 y.2.2.2.2.2.1 y.2.2.2.2.2.2.1], 0, .ro)), (6, ([.ints .u8 y.2.2.2.2.2.2.2.1 y.2.2.2.2.2.2.2.2.1], 0, .ro)), (8, ([.ints .u32 8 y.2.2.2.2.2.2.2.2.2], 120, .norm))], 9⟩
def s2.des : ∀ α : Type, (Ty1) → (Ex → VS → Option α) → Option α := (des1 (.exit 2) s2.o0)
def s2.out : Ty1 → Ex × VS := (fun y => (.exit 2, s2.o0 y))
theorem s2.desOK : ∀ α y (k : Ex → VS → Option α), s2.des α y k = k (s2.out y).1 (s2.out y).2 := (fun _ _ _ => rfl)
def s2.inY : Ex → VS → Option (Ty1)
 | .exit 2, ⟨[(0, .ptr 0 0), (8, .vw true 1 0 2 2), (9, .int .i64 2), (10, .int .i64 0)], [(0, ([.ptr 8 0, .ints .u8 64 b0_0, .int .i64 b0_1, .int .u64 b0_2], 125, .norm)), (1, ([.vw true 4 0 b1_0 5, .vw true 6 0 b1_1 7], 0, .ro)), (3, ([], 120, .dead)), (4, ([.ints .u8 b4_0 b4_1], 0, .ro)), (6, ([.ints .u8 b6_0 b6_1], 0, .ro)), (8, ([.ints .u32 8 b8], 120, .norm))], 9⟩ => some (b0_0, b0_1, b0_2, b1_0, b1_1, b4_0, b4_1, b6_0, b6_1, b8)
 | _, _ => none
def s2bt (K : Nat) (rec : Ty0 → Option (Ty1)) (t5_0 : Nat) (t5_1 : Nat) (b0_0 : List Int) (b0_1 : Int) (b0_2 : Int) (b1_0 : Nat) (b1_1 : Nat) (b4_0 : Nat) (b4_1 : List Int) (b6_0 : Nat) (b6_1 : List Int) (b9 : List Int) : Option (Ty1) :=
 bif (decide (((t5_1 : Nat) : Int) > 0)) then
 bif decide (0 ≤ b0_1 ∧ b0_1 ≤ 64) then
 let v22 := bif Nat.beq 64 (Int.toNat b0_1) then 0 else (Int.toNat b0_1)
 let v23 := 64 - (Int.toNat b0_1)
 bif (((Nat.ble (t5_0 + t5_1) b6_0 && true) && (Nat.ble (v22 + v23) 64)) && (Nat.beq t5_1 t5_1)) then
 let v25 := ((Nat.min t5_1 v23 : Nat) : Int)
 let v26 := spl b0_0 v22 (Nat.min t5_1 v23) (subI b6_1 t5_0 t5_1)
 bif decide (0 ≤ v25 ∧ v25 ≤ ((t5_1 : Nat) : Int)) then
 let v27 := t5_0 + (Int.toNat v25)
 let v28 := t5_1 - (Int.toNat v25)
 let v29 := IntKind.wrap .i64 (b0_1 + v25)
 bif (v29 == 64) then
 (f98.F K (b9, v26, v29, b0_2, b9)).bind fun y30 =>
 rec (v27, v28, y30.2.1, 0, y30.2.2.2.1, b1_0, b1_1, b4_0, b4_1, b6_0, b6_1, y30.1)
 else
 rec (v27, v28, v26, v29, b0_2, b1_0, b1_1, b4_0, b4_1, b6_0, b6_1, b9)
 else
 none
 else
 none
 else
 none
 else
 some (b0_0, b0_1, b0_2, b1_0, b1_1, b4_0, b4_1, b6_0, b6_1, b9)
def s2b (K : Nat) (rec : Ty0 → Option (Ty1)) (x : Ty0) : Option (Ty1) := s2bt K rec x.1 x.2.1 x.2.2.1 x.2.2.2.1 x.2.2.2.2.1 x.2.2.2.2.2.1 x.2.2.2.2.2.2.1 x.2.2.2.2.2.2.2.1 x.2.2.2.2.2.2.2.2.1 x.2.2.2.2.2.2.2.2.2.1 x.2.2.2.2.2.2.2.2.2.2.1 x.2.2.2.2.2.2.2.2.2.2.2
noncomputable def s2b.b : Code := (findLoop 2 c).getD .skip
def s2b.h : Hint := { lv := [0, 5, 8, 9, 10], co := [(5, 0, [])], mv := [3] }
def s2b.ho : Hint := { lv := [0, 8, 9, 10] }
def s2b.shp (x : Ty0) : VS := ⟨[(0, .ptr 0 0), (5, .vw true 6 x.1 x.2.1 8), (8, .vw true 1 0 2 2), (9, .int .i64 2), (10, .int .i64 1)], [(0, ([.ptr 9 0, .ints .u8 64 x.2.2.1, .int .i64 x.2.2.2.1, .int .u64 x.2.2.2.2.1], 125, .norm)), (1, ([.vw true 4 0 x.2.2.2.2.2.1 5, .vw true 6 0 x.2.2.2.2.2.2.1 7], 0, .ro)), (3, ([], 120, .dead)), (4, ([.ints .u8 x.2.2.2.2.2.2.2.1 x.2.2.2.2.2.2.2.2.1], 0, .ro)), (6, ([.ints .u8 x.2.2.2.2.2.2.2.2.2.1 x.2.2.2.2.2.2.2.2.2.2.1], 0, .ro)), (9, ([.ints .u32 8 x.2.2.2.2.2.2.2.2.2.2.2], 120, .norm))], 10⟩
def s2b.inX : VS → Option (Ty0)
 | ⟨[(0, .ptr 0 0), (5, .vw true 6 t5_0 t5_1 8), (8, .vw true 1 0 2 2), (9, .int .i64 2), (10, .int .i64 1)], [(0, ([.ptr 9 0, .ints .u8 64 b0_0, .int .i64 b0_1, .int .u64 b0_2], 125, .norm)), (1, ([.vw true 4 0 b1_0 5, .vw true 6 0 b1_1 7], 0, .ro)), (3, ([], 120, .dead)), (4, ([.ints .u8 b4_0 b4_1], 0, .ro)), (6, ([.ints .u8 b6_0 b6_1], 0, .ro)), (9, ([.ints .u32 8 b9], 120, .norm))], 10⟩ => some (t5_0, t5_1, b0_0, b0_1, b0_2, b1_0, b1_1, b4_0, b4_1, b6_0, b6_1, b9)
 | _ => none
def s2b.o0 (y : Ty1) : VS := ⟨[(0, .ptr 0 0), (8, .vw true 1 0 2 2), (9, .int .i64 2), (10, .int .i64 1)], [(0, ([.ptr 8 0, .ints .u8 64 y.1, .int .i64 y.2.1, .int .u64 y.2.2.1], 125, .norm)), (1, ([.vw true 4 0 y.2.2.2.1 5, .vw true 6 0 y.2.2.2.2.1 7], 0, .ro)), (3, ([], 120, .dead)), (4, ([.ints .u8 y.2.2.2.2.2.1 y.2.2.2.2.2.2.1], 0, .ro)), (6, ([.ints .u8 y.2.2.2.2.2.2.2.1 y.2.2.2.2.2.2.2.2.1], 0, .ro)), (8, ([.ints .u32 8 y.2.2.2.2.2.2.2.2.2], 120, .norm))], 9⟩
def s2b.des : ∀ α : Type, (Ty1) → (Ex → VS → Option α) → Option α := (des1 (.exit 2) s2b.o0)
def s2b.out : Ty1 → Ex × VS := (fun y => (.exit 2, s2b.o0 y))
theorem s2b.desOK : ∀ α y (k : Ex → VS → Option α), s2b.des α y k = k (s2b.out y).1 (s2b.out y).2 := (fun _ _ _ => rfl)
def s2b.inY : Ex → VS → Option (Ty1)
 | .exit 2, ⟨[(0, .ptr 0 0), (8, .vw true 1 0 2 2), (9, .int .i64 2), (10, .int .i64 1)], [(0, ([.ptr 8 0, .ints .u8 64 b0_0, .int .i64 b0_1, .int .u64 b0_2], 125, .norm)), (1, ([.vw true 4 0 b1_0 5, .vw true 6 0 b1_1 7], 0, .ro)), (3, ([], 120, .dead)), (4, ([.ints .u8 b4_0 b4_1], 0, .ro)), (6, ([.ints .u8 b6_0 b6_1], 0, .ro)), (8, ([.ints .u32 8 b8], 120, .norm))], 9⟩ => some (b0_0, b0_1, b0_2, b1_0, b1_1, b4_0, b4_1, b6_0, b6_1, b8)
 | _, _ => none
def lp (K : Nat) : Nat → Option (Hint × Summ) := tabLp [(2, s2.h, summOr s2.inX (summOf (iter (s2 K) K) s2.inX s2.des) (summOf (iter (s2b K) K) s2b.inX s2b.des))]
noncomputable def tab (K : Nat) : List (Nat × Entry) := [(98, (f98.E K))]
theorem tabOK (K : Nat) : SpecOK Tryz.prog (tabSp (tab K)) := tab_ok ((tab_cons (f98.ok K) tab_nil))
theorem s2.eq (K : Nat) (rec : Ty0 → Option (Ty1)) (x : Ty0) : s2 K rec x = roundL (getA tys) (tabSp (tab K)) 76 8 (lp K) 400 s2.b s2.h s2.ho s2.shp s2.inX s2.inY rec x := by kernel_rfl
theorem s2.lok (K : Nat) : LoopsOK Tryz.prog 76 8 (lp K) s2.b := loops_ok (by
  have h : loopsIn (lp K) s2.b = [] := by kernel_rfl
  rw [h]; simp)
theorem s2.ok (K : Nat) : SummOK Tryz.prog 76 8 (summOf (iter (s2 K) K) s2.inX s2.des) s2.b :=
  loop_ok mix tys_ok (tabOK K) (h := s2.h) (ho := s2.ho) (shp := s2.shp) (inX := s2.inX) (des := s2.des) (out := s2.out) (inY := s2.inY) (fuel := 400)
    (by intro st x h; unfold s2.inX at h; split at h <;> simp at h; subst h; rfl)
    (by intro e st y h; unfold s2.inY at h; split at h <;> simp at h <;> subst h <;> rfl)
    s2.desOK (s2.lok K) (s2 K) (s2.eq K) K
theorem s2b.eq (K : Nat) (rec : Ty0 → Option (Ty1)) (x : Ty0) : s2b K rec x = roundL (getA tys) (tabSp (tab K)) 76 8 (lp K) 400 s2b.b s2b.h s2b.ho s2b.shp s2b.inX s2b.inY rec x := by kernel_rfl
theorem s2b.lok (K : Nat) : LoopsOK Tryz.prog 76 8 (lp K) s2b.b := loops_ok (by
  have h : loopsIn (lp K) s2b.b = [] := by kernel_rfl
  rw [h]; simp)
theorem s2b.ok (K : Nat) : SummOK Tryz.prog 76 8 (summOf (iter (s2b K) K) s2b.inX s2b.des) s2b.b :=
  loop_ok mix tys_ok (tabOK K) (h := s2b.h) (ho := s2b.ho) (shp := s2b.shp) (inX := s2b.inX) (des := s2b.des) (out := s2b.out) (inY := s2b.inY) (fuel := 400)
    (by intro st x h; unfold s2b.inX at h; split at h <;> simp at h; subst h; rfl)
    (by intro e st y h; unfold s2b.inY at h; split at h <;> simp at h <;> subst h <;> rfl)
    s2b.desOK (s2b.lok K) (s2b K) (s2b.eq K) K
theorem loops (K : Nat) : LoopsOK Tryz.prog 76 8 (lp K) c := loops_ok (by
  have h : loopsIn (lp K) c = [(2, s2.b)] := by kernel_rfl
  rw [h]
  intro p hp
  simp only [List.mem_cons, List.not_mem_nil, or_false] at hp
  rcases hp with rfl
  · exact ⟨_, rfl, (summOr_ok (s2.ok K) (s2b.ok K))⟩)
def T (K : Nat) (m0_0 : List Int) (m0_1 : Int) (m0_2 : Int) (m1_0 : Nat) (m1_1 : Nat) (m3 : List Int) (m4_0 : Nat) (m4_1 : List Int) (m6_0 : Nat) (m6_1 : List Int) : Option (Ty1) :=
 (iter (s2 K) K (0, m1_0, m0_0, m0_1, (IntKind.wrap .u64 (m0_2 + (IntKind.wrap .u64 ((m1_0 : Nat) : Int)))), m1_0, m1_1, m4_0, m4_1, m6_0, m6_1, m3)).bind fun y15 =>
 let v16 := y15.2.2.2.2.1
 (iter (s2b K) K (0, v16, y15.1, y15.2.1, (IntKind.wrap .u64 (y15.2.2.1 + (IntKind.wrap .u64 ((v16 : Nat) : Int)))), y15.2.2.2.1, y15.2.2.2.2.1, y15.2.2.2.2.2.1, y15.2.2.2.2.2.2.1, y15.2.2.2.2.2.2.2.1, y15.2.2.2.2.2.2.2.2.1, y15.2.2.2.2.2.2.2.2.2)).bind fun y31 =>
 some (y31.1, y31.2.1, y31.2.2.1, y31.2.2.2.1, y31.2.2.2.2.1, y31.2.2.2.2.2.1, y31.2.2.2.2.2.2.1, y31.2.2.2.2.2.2.2.1, y31.2.2.2.2.2.2.2.2.1, y31.2.2.2.2.2.2.2.2.2)
def F (K : Nat) (x : Ty2) : Option (Ty1) := T K x.1 x.2.1 x.2.2.1 x.2.2.2.1 x.2.2.2.2.1 x.2.2.2.2.2.1 x.2.2.2.2.2.2.1 x.2.2.2.2.2.2.2.1 x.2.2.2.2.2.2.2.2.1 x.2.2.2.2.2.2.2.2.2
def av (_x : Ty2) : List VV := [.ptr 0 0, .vw true 1 0 2 2]
def bl (x : Ty2) : List (Nat × Blk) := [(0, ([.ptr 3 0, .ints .u8 64 x.1, .int .i64 x.2.1, .int .u64 x.2.2.1], 125, .norm)), (1, ([.vw true 4 0 x.2.2.2.1 5, .vw true 6 0 x.2.2.2.2.1 7], 0, .ro)), (3, ([.ints .u32 8 x.2.2.2.2.2.1], 120, .norm)), (4, ([.ints .u8 x.2.2.2.2.2.2.1 x.2.2.2.2.2.2.2.1], 0, .ro)), (6, ([.ints .u8 x.2.2.2.2.2.2.2.2.1 x.2.2.2.2.2.2.2.2.2], 0, .ro))]
def inA : VS → Option (Ty2)
 | ⟨[(0, .ptr 0 0), (1, .vw true 1 0 2 2)], [(0, ([.ptr 3 0, .ints .u8 64 m0_0, .int .i64 m0_1, .int .u64 m0_2], 125, .norm)), (1, ([.vw true 4 0 m1_0 5, .vw true 6 0 m1_1 7], 0, .ro)), (3, ([.ints .u32 8 m3], 120, .norm)), (4, ([.ints .u8 m4_0 m4_1], 0, .ro)), (6, ([.ints .u8 m6_0 m6_1], 0, .ro))], 8⟩ => some (m0_0, m0_1, m0_2, m1_0, m1_1, m3, m4_0, m4_1, m6_0, m6_1)
 | _ => none
def o0 (y : Ty1) : VS := ⟨[(0, .tup [])], [(0, ([.ptr 8 0, .ints .u8 64 y.1, .int .i64 y.2.1, .int .u64 y.2.2.1], 125, .norm)), (1, ([.vw true 4 0 y.2.2.2.1 5, .vw true 6 0 y.2.2.2.2.1 7], 0, .ro)), (3, ([], 120, .dead)), (4, ([.ints .u8 y.2.2.2.2.2.1 y.2.2.2.2.2.2.1], 0, .ro)), (6, ([.ints .u8 y.2.2.2.2.2.2.2.1 y.2.2.2.2.2.2.2.2.1], 0, .ro)), (8, ([.ints .u32 8 y.2.2.2.2.2.2.2.2.2], 120, .norm))], 9⟩
def des : ∀ α : Type, (Ty1) → (VS → Option α) → Option α := (dv1 o0)
def out : Ty1 → VS := o0
def inR : VS → Option (Ty1)
 | ⟨[(0, .tup [])], [(0, ([.ptr 8 0, .ints .u8 64 z0_0, .int .i64 z0_1, .int .u64 z0_2], 125, .norm)), (1, ([.vw true 4 0 z1_0 5, .vw true 6 0 z1_1 7], 0, .ro)), (3, ([], 120, .dead)), (4, ([.ints .u8 z4_0 z4_1], 0, .ro)), (6, ([.ints .u8 z6_0 z6_1], 0, .ro)), (8, ([.ints .u32 8 z8], 120, .norm))], 9⟩ => some (z0_0, z0_1, z0_2, z1_0, z1_1, z4_0, z4_1, z6_0, z6_1, z8)
 | _ => none
noncomputable def E (K : Nat) : Entry := genE 8 inA (F K) des
theorem eq (K : Nat) (x : Ty2) : F K x = xrun (getA tys) (tabSp (tab K)) Tryz.f76.ntmps 8 (lp K) 400 c ⟨initL 0 (av x), bl x, 8⟩ (contF (getA tys) 8 Tryz.f76.results.toList inR) := by kernel_rfl
theorem ok (K : Nat) : EntryOK Tryz.prog 76 (E K) :=
  gen_ok mix tys_ok (tabOK K) Tryz.func76 (by kernel_rfl : Tryz.f76.body = some c) (by kernel_rfl) (loops K) (av := av) (bl := bl) (out := out) (fuel := 400)
    (by intro s x h; unfold inA at h; split at h <;> simp at h; subst h; rfl) (fun _ => Nat.le_of_ble_eq_true rfl)
    (by intro s y h; unfold inR at h; split at h <;> simp at h <;> subst h <;> rfl) (fun _ _ _ => rfl) (eq K)
end f76
end Go.Proofs

namespace Go.Proofs
open Go.VM
namespace f76v1
abbrev Ty0 := Nat × Nat × List Int × Int × Int × Nat × Nat × List Int × List Int
abbrev Ty1 := List Int × Int × Int × Nat × Nat × List Int × List Int
abbrev Ty2 := List Int × Int × Int × Nat × List Int × Nat × List Int
noncomputable def c : Code := bodyOf Tryz.f76
def s2t (K : Nat) (rec : Ty0 → Option (Ty1)) (t5_0 : Nat) (t5_1 : Nat) (b0_0 : List Int) (b0_1 : Int) (b0_2 : Int) (b1 : Nat) (b4_0 : Nat) (b4_1 : List Int) (b7 : List Int) : Option (Ty1) :=
 bif (decide (((t5_1 : Nat) : Int) > 0)) then
 bif decide (0 ≤ b0_1 ∧ b0_1 ≤ 64) then
 let v6 := bif Nat.beq 64 (Int.toNat b0_1) then 0 else (Int.toNat b0_1)
 let v7 := 64 - (Int.toNat b0_1)
 bif (((Nat.ble (t5_0 + t5_1) b4_0 && true) && (Nat.ble (v6 + v7) 64)) && (Nat.beq t5_1 t5_1)) then
 let v9 := ((Nat.min t5_1 v7 : Nat) : Int)
 let v10 := spl b0_0 v6 (Nat.min t5_1 v7) (subI b4_1 t5_0 t5_1)
 bif decide (0 ≤ v9 ∧ v9 ≤ ((t5_1 : Nat) : Int)) then
 let v11 := t5_0 + (Int.toNat v9)
 let v12 := t5_1 - (Int.toNat v9)
 let v13 := IntKind.wrap .i64 (b0_1 + v9)
 bif (v13 == 64) then
 (f98.F K (b7, v10, v13, b0_2, b7)).bind fun y14 =>
 rec (v11, v12, y14.2.1, 0, y14.2.2.2.1, b1, b4_0, b4_1, y14.1)
 else
 rec (v11, v12, v10, v13, b0_2, b1, b4_0, b4_1, b7)
 else
 none
 else
 none
 else
 none
 else
 some (b0_0, b0_1, b0_2, b1, b4_0, b4_1, b7)
def s2 (K : Nat) (rec : Ty0 → Option (Ty1)) (x : Ty0) : Option (Ty1) := s2t K rec x.1 x.2.1 x.2.2.1 x.2.2.2.1 x.2.2.2.2.1 x.2.2.2.2.2.1 x.2.2.2.2.2.2.1 x.2.2.2.2.2.2.2.1 x.2.2.2.2.2.2.2.2
noncomputable def s2.b : Code := (findLoop 2 c).getD .skip
def s2.h : Hint := { lv := [0, 5, 8, 9, 10], co := [(5, 0, [])], mv := [3] }
def s2.ho : Hint := { lv := [0, 8, 9, 10] }
def s2.shp (x : Ty0) : VS := ⟨[(0, .ptr 0 0), (5, .vw true 4 x.1 x.2.1 6), (8, .vw true 1 0 1 2), (9, .int .i64 1), (10, .int .i64 0)], [(0, ([.ptr 7 0, .ints .u8 64 x.2.2.1, .int .i64 x.2.2.2.1, .int .u64 x.2.2.2.2.1], 125, .norm)), (1, ([.vw true 4 0 x.2.2.2.2.2.1 5], 0, .ro)), (3, ([], 120, .dead)), (4, ([.ints .u8 x.2.2.2.2.2.2.1 x.2.2.2.2.2.2.2.1], 0, .ro)), (7, ([.ints .u32 8 x.2.2.2.2.2.2.2.2], 120, .norm))], 8⟩
def s2.inX : VS → Option (Ty0)
 | ⟨[(0, .ptr 0 0), (5, .vw true 4 t5_0 t5_1 6), (8, .vw true 1 0 1 2), (9, .int .i64 1), (10, .int .i64 0)], [(0, ([.ptr 7 0, .ints .u8 64 b0_0, .int .i64 b0_1, .int .u64 b0_2], 125, .norm)), (1, ([.vw true 4 0 b1 5], 0, .ro)), (3, ([], 120, .dead)), (4, ([.ints .u8 b4_0 b4_1], 0, .ro)), (7, ([.ints .u32 8 b7], 120, .norm))], 8⟩ => some (t5_0, t5_1, b0_0, b0_1, b0_2, b1, b4_0, b4_1, b7)
 | _ => none
def s2.o0 (y : Ty1) : VS := ⟨[(0, .ptr 0 0), (8, .vw true 1 0 1 2), (9, .int .i64 1), (10, .int .i64 0)], [(0, ([.ptr 6 0, .ints .u8 64 y.1, .int .i64 y.2.1, .int .u64 y.2.2.1], 125, .norm)), (1, ([.vw true 4 0 y.2.2.2.1 5], 0, .ro)), (3, ([], 120, .dead)), (4, ([.ints .u8 y.2.2.2.2.1 y.2.2.2.2.2.1], 0, .ro)), (6, ([.ints .u32 8 y.2.2.2.2.2.2], 120, .norm))], 7⟩
def s2.des : ∀ α : Type, (Ty1) → (Ex → VS → Option α) → Option α := (des1 (.exit 2) s2.o0)
def s2.out : Ty1 → Ex × VS := (fun y => (.exit 2, s2.o0 y))
theorem s2.desOK : ∀ α y (k : Ex → VS → Option α), s2.des α y k = k (s2.out y).1 (s2.out y).2 := (fun _ _ _ => rfl)
def s2.inY : Ex → VS → Option (Ty1)
 | .exit 2, ⟨[(0, .ptr 0 0), (8, .vw true 1 0 1 2), (9, .int .i64 1), (10, .int .i64 0)], [(0, ([.ptr 6 0, .ints .u8 64 b0_0, .int .i64 b0_1, .int .u64 b0_2], 125, .norm)), (1, ([.vw true 4 0 b1 5], 0, .ro)), (3, ([], 120, .dead)), (4, ([.ints .u8 b4_0 b4_1], 0, .ro)), (6, ([.ints .u32 8 b6], 120, .norm))], 7⟩ => some (b0_0, b0_1, b0_2, b1, b4_0, b4_1, b6)
 | _, _ => none
def lp (K : Nat) : Nat → Option (Hint × Summ) := tabLp [(2, s2.h, summOf (iter (s2 K) K) s2.inX s2.des)]
noncomputable def tab (K : Nat) : List (Nat × Entry) := [(98, (f98.E K))]
theorem tabOK (K : Nat) : SpecOK Tryz.prog (tabSp (tab K)) := tab_ok ((tab_cons (f98.ok K) tab_nil))
theorem s2.eq (K : Nat) (rec : Ty0 → Option (Ty1)) (x : Ty0) : s2 K rec x = roundL (getA tys) (tabSp (tab K)) 76 6 (lp K) 400 s2.b s2.h s2.ho s2.shp s2.inX s2.inY rec x := by kernel_rfl
theorem s2.lok (K : Nat) : LoopsOK Tryz.prog 76 6 (lp K) s2.b := loops_ok (by
  have h : loopsIn (lp K) s2.b = [] := by kernel_rfl
  rw [h]; simp)
theorem s2.ok (K : Nat) : SummOK Tryz.prog 76 6 (summOf (iter (s2 K) K) s2.inX s2.des) s2.b :=
  loop_ok mix tys_ok (tabOK K) (h := s2.h) (ho := s2.ho) (shp := s2.shp) (inX := s2.inX) (des := s2.des) (out := s2.out) (inY := s2.inY) (fuel := 400)
    (by intro st x h; unfold s2.inX at h; split at h <;> simp at h; subst h; rfl)
    (by intro e st y h; unfold s2.inY at h; split at h <;> simp at h <;> subst h <;> rfl)
    s2.desOK (s2.lok K) (s2 K) (s2.eq K) K
theorem loops (K : Nat) : LoopsOK Tryz.prog 76 6 (lp K) c := loops_ok (by
  have h : loopsIn (lp K) c = [(2, s2.b)] := by kernel_rfl
  rw [h]
  intro p hp
  simp only [List.mem_cons, List.not_mem_nil, or_false] at hp
  rcases hp with rfl
  · exact ⟨_, rfl, (s2.ok K)⟩)
def T (K : Nat) (m0_0 : List Int) (m0_1 : Int) (m0_2 : Int) (m1 : Nat) (m3 : List Int) (m4_0 : Nat) (m4_1 : List Int) : Option (Ty1) :=
 (iter (s2 K) K (0, m1, m0_0, m0_1, (IntKind.wrap .u64 (m0_2 + (IntKind.wrap .u64 ((m1 : Nat) : Int)))), m1, m4_0, m4_1, m3)).bind fun y15 =>
 some (y15.1, y15.2.1, y15.2.2.1, y15.2.2.2.1, y15.2.2.2.2.1, y15.2.2.2.2.2.1, y15.2.2.2.2.2.2)
def F (K : Nat) (x : Ty2) : Option (Ty1) := T K x.1 x.2.1 x.2.2.1 x.2.2.2.1 x.2.2.2.2.1 x.2.2.2.2.2.1 x.2.2.2.2.2.2
def av (_x : Ty2) : List VV := [.ptr 0 0, .vw true 1 0 1 2]
def bl (x : Ty2) : List (Nat × Blk) := [(0, ([.ptr 3 0, .ints .u8 64 x.1, .int .i64 x.2.1, .int .u64 x.2.2.1], 125, .norm)), (1, ([.vw true 4 0 x.2.2.2.1 5], 0, .ro)), (3, ([.ints .u32 8 x.2.2.2.2.1], 120, .norm)), (4, ([.ints .u8 x.2.2.2.2.2.1 x.2.2.2.2.2.2], 0, .ro))]
def inA : VS → Option (Ty2)
 | ⟨[(0, .ptr 0 0), (1, .vw true 1 0 1 2)], [(0, ([.ptr 3 0, .ints .u8 64 m0_0, .int .i64 m0_1, .int .u64 m0_2], 125, .norm)), (1, ([.vw true 4 0 m1 5], 0, .ro)), (3, ([.ints .u32 8 m3], 120, .norm)), (4, ([.ints .u8 m4_0 m4_1], 0, .ro))], 6⟩ => some (m0_0, m0_1, m0_2, m1, m3, m4_0, m4_1)
 | _ => none
def o0 (y : Ty1) : VS := ⟨[(0, .tup [])], [(0, ([.ptr 6 0, .ints .u8 64 y.1, .int .i64 y.2.1, .int .u64 y.2.2.1], 125, .norm)), (1, ([.vw true 4 0 y.2.2.2.1 5], 0, .ro)), (3, ([], 120, .dead)), (4, ([.ints .u8 y.2.2.2.2.1 y.2.2.2.2.2.1], 0, .ro)), (6, ([.ints .u32 8 y.2.2.2.2.2.2], 120, .norm))], 7⟩
def des : ∀ α : Type, (Ty1) → (VS → Option α) → Option α := (dv1 o0)
def out : Ty1 → VS := o0
def inR : VS → Option (Ty1)
 | ⟨[(0, .tup [])], [(0, ([.ptr 6 0, .ints .u8 64 z0_0, .int .i64 z0_1, .int .u64 z0_2], 125, .norm)), (1, ([.vw true 4 0 z1 5], 0, .ro)), (3, ([], 120, .dead)), (4, ([.ints .u8 z4_0 z4_1], 0, .ro)), (6, ([.ints .u32 8 z6], 120, .norm))], 7⟩ => some (z0_0, z0_1, z0_2, z1, z4_0, z4_1, z6)
 | _ => none
noncomputable def E (K : Nat) : Entry := genE 6 inA (F K) des
theorem eq (K : Nat) (x : Ty2) : F K x = xrun (getA tys) (tabSp (tab K)) Tryz.f76.ntmps 6 (lp K) 400 c ⟨initL 0 (av x), bl x, 6⟩ (contF (getA tys) 6 Tryz.f76.results.toList inR) := by kernel_rfl
theorem ok (K : Nat) : EntryOK Tryz.prog 76 (E K) :=
  gen_ok mix tys_ok (tabOK K) Tryz.func76 (by kernel_rfl : Tryz.f76.body = some c) (by kernel_rfl) (loops K) (av := av) (bl := bl) (out := out) (fuel := 400)
    (by intro s x h; unfold inA at h; split at h <;> simp at h; subst h; rfl) (fun _ => Nat.le_of_ble_eq_true rfl)
    (by intro s y h; unfold inR at h; split at h <;> simp at h <;> subst h <;> rfl) (fun _ _ _ => rfl) (eq K)
end f76v1
end Go.Proofs

namespace Go.Proofs
open Go.VM
namespace f76v2
abbrev Ty0 := Nat × Nat × List Int × Int × Int × Nat × Nat × Nat × Nat × List Int × Nat × List Int × Nat × List Int × List Int
abbrev Ty1 := List Int × Int × Int × Nat × Nat × Nat × Nat × List Int × Nat × List Int × Nat × List Int × List Int
abbrev Ty2 := List Int × Int × Int × Nat × Nat × Nat × List Int × Nat × List Int × Nat × List Int × Nat × List Int
noncomputable def c : Code := bodyOf Tryz.f76
def s2t (K : Nat) (rec : Ty0 → Option (Ty1)) (t5_0 : Nat) (t5_1 : Nat) (b0_0 : List Int) (b0_1 : Int) (b0_2 : Int) (b1_0 : Nat) (b1_1 : Nat) (b1_2 : Nat) (b4_0 : Nat) (b4_1 : List Int) (b6_0 : Nat) (b6_1 : List Int) (b8_0 : Nat) (b8_1 : List Int) (b11 : List Int) : Option (Ty1) :=
 bif (decide (((t5_1 : Nat) : Int) > 0)) then
 bif decide (0 ≤ b0_1 ∧ b0_1 ≤ 64) then
 let v6 := bif Nat.beq 64 (Int.toNat b0_1) then 0 else (Int.toNat b0_1)
 let v7 := 64 - (Int.toNat b0_1)
 bif (((Nat.ble (t5_0 + t5_1) b4_0 && true) && (Nat.ble (v6 + v7) 64)) && (Nat.beq t5_1 t5_1)) then
 let v9 := ((Nat.min t5_1 v7 : Nat) : Int)
 let v10 := spl b0_0 v6 (Nat.min t5_1 v7) (subI b4_1 t5_0 t5_1)
 bif decide (0 ≤ v9 ∧ v9 ≤ ((t5_1 : Nat) : Int)) then
 let v11 := t5_0 + (Int.toNat v9)
 let v12 := t5_1 - (Int.toNat v9)
 let v13 := IntKind.wrap .i64 (b0_1 + v9)
 bif (v13 == 64) then
 (f98.F K (b11, v10, v13, b0_2, b11)).bind fun y14 =>
 rec (v11, v12, y14.2.1, 0, y14.2.2.2.1, b1_0, b1_1, b1_2, b4_0, b4_1, b6_0, b6_1, b8_0, b8_1, y14.1)
 else
 rec (v11, v12, v10, v13, b0_2, b1_0, b1_1, b1_2, b4_0, b4_1, b6_0, b6_1, b8_0, b8_1, b11)
 else
 none
 else
 none
 else
 none
 else
 some (b0_0, b0_1, b0_2, b1_0, b1_1, b1_2, b4_0, b4_1, b6_0, b6_1, b8_0, b8_1, b11)
def s2 (K : Nat) (rec : Ty0 → Option (Ty1)) (x : Ty0) : Option (Ty1) := s2t K rec x.1 x.2.1 x.2.2.1 x.2.2.2.1 x.2.2.2.2.1 x.2.2.2.2.2.1 x.2.2.2.2.2.2.1 x.2.2.2.2.2.2.2.1 x.2.2.2.2.2.2.2.2.1 x.2.2.2.2.2.2.2.2.2.1 x.2.2.2.2.2.2.2.2.2.2.1 x.2.2.2.2.2.2.2.2.2.2.2.1 x.2.2.2.2.2.2.2.2.2.2.2.2.1 x.2.2.2.2.2.2.2.2.2.2.2.2.2.1 x.2.2.2.2.2.2.2.2.2.2.2.2.2.2
noncomputable def s2.b : Code := (findLoop 2 c).getD .skip
def s2.h : Hint := { lv := [0, 5, 8, 9, 10], co := [(5, 0, [])], mv := [3] }
def s2.ho : Hint := { lv := [0, 8, 9, 10] }
def s2.shp (x : Ty0) : VS := ⟨[(0, .ptr 0 0), (5, .vw true 4 x.1 x.2.1 10), (8, .vw true 1 0 3 2), (9, .int .i64 3), (10, .int .i64 0)], [(0, ([.ptr 11 0, .ints .u8 64 x.2.2.1, .int .i64 x.2.2.2.1, .int .u64 x.2.2.2.2.1], 125, .norm)), (1, ([.vw true 4 0 x.2.2.2.2.2.1 5, .vw true 6 0 x.2.2.2.2.2.2.1 7, .vw true 8 0 x.2.2.2.2.2.2.2.1 9], 0, .ro)), (3, ([], 120, .dead)), (4, ([.ints .u8 x.2.2.2.2.2.2.2.2.1 x.2.2.2.2.2.2.2.2.2.1], 0, .ro)), (6, ([.ints .u8 x.2.2.2.2.2.2.2.2.2.2.1 x.2.2.2.2.2.2.2.2.2.2.2.1], 0, .ro)), (8, ([.ints .u8 x.2.2.2.2.2.2.2.2.2.2.2.2.1 x.2.2.2.2.2.2.2.2.2.2.2.2.2.1], 0, .ro)), (11, ([.ints .u32 8 x.2.2.2.2.2.2.2.2.2.2.2.2.2.2], 120, .norm))], 12⟩
def s2.inX : VS → Option (Ty0)
 | ⟨[(0, .ptr 0 0), (5, .vw true 4 t5_0 t5_1 10), (8, .vw true 1 0 3 2), (9, .int .i64 3), (10, .int .i64 0)], [(0, ([.ptr 11 0, .ints .u8 64 b0_0, .int .i64 b0_1, .int .u64 b0_2], 125, .norm)), (1, ([.vw true 4 0 b1_0 5, .vw true 6 0 b1_1 7, .vw true 8 0 b1_2 9], 0, .ro)), (3, ([], 120, .dead)), (4, ([.ints .u8 b4_0 b4_1], 0, .ro)), (6, ([.ints .u8 b6_0 b6_1], 0, .ro)), (8, ([.ints .u8 b8_0 b8_1], 0, .ro)), (11, ([.ints .u32 8 b11], 120, .norm))], 12⟩ => some (t5_0, t5_1, b0_0, b0_1, b0_2, b1_0, b1_1, b1_2, b4_0, b4_1, b6_0, b6_1, b8_0, b8_1, b11)
 | _ => none
def s2.o0 (y : Ty1) : VS := ⟨[(0, .ptr 0 0), (8, .vw true 1 0 3 2), (9, .int .i64 3), (10, .int .i64 0)], [(0, ([.ptr 10 0, .ints .u8 64 y.1, .int .i64 y.2.1, .int .u64 y.2.2.1], 125, .norm)), (1, ([.vw true 4 0 y.2.2.2.1 5, .vw true 6 0 y.2.2.2.2.1 7, .vw true 8 0 y.2.2.2.2.2.1 9], 0, .ro)), (3, ([], 120, .dead)), (4, ([.ints .u8 y.2.2.2.2.2.2.1 y.2.2.2.2.2.2.2.1], 0, .ro)), (6, ([.ints .u8 y.2.2.2.2.2.2.2.2.1 y.2.2.2.2.2.2.2.2.2.1], 0, .ro)), (8, ([.ints .u8 y.2.2.2.2.2.2.2.2.2.2.1 y.2.2.2.2.2.2.2.2.2.2.2.1], 0, .ro)), (10, ([.ints .u32 8 y.2.2.2.2.2.2.2.2.2.2.2.2], 120, .norm))], 11⟩
def s2.des : ∀ α : Type, (Ty1) → (Ex → VS → Option α) → Option α := (des1 (.exit 2) s2.o0)
def s2.out : Ty1 → Ex × VS := (fun y => (.exit 2, s2.o0 y))
theorem s2.desOK : ∀ α y (k : Ex → VS → Option α), s2.des α y k = k (s2.out y).1 (s2.out y).2 := (fun _ _ _ => rfl)
def s2.inY : Ex → VS → Option (Ty1)
 | .exit 2, ⟨[(0, .ptr 0 0), (8, .vw true 1 0 3 2), (9, .int .i64 3), (10, .int .i64 0)], [(0, ([.ptr 10 0, .ints .u8 64 b0_0, .int .i64 b0_1, .int .u64 b0_2], 125, .norm)), (1, ([.vw true 4 0 b1_0 5, .vw true 6 0 b1_1 7, .vw true 8 0 b1_2 9], 0, .ro)), (3, ([], 120, .dead)), (4, ([.ints .u8 b4_0 b4_1], 0, .ro)), (6, ([.ints .u8 b6_0 b6_1], 0, .ro)), (8, ([.ints .u8 b8_0 b8_1], 0, .ro)), (10, ([.ints .u32 8 b10], 120, .norm))], 11⟩ => some (b0_0, b0_1, b0_2, b1_0, b1_1, b1_2, b4_0, b4_1, b6_0, b6_1, b8_0, b8_1, b10)
 | _, _ => none
def s2bt (K : Nat) (rec : Ty0 → Option (Ty1)) (t5_0 : Nat) (t5_1 : Nat) (b0_0 : List Int) (b0_1 : Int) (b0_2 : Int) (b1_0 : Nat) (b1_1 : Nat) (b1_2 : Nat) (b4_0 : Nat) (b4_1 : List Int) (b6_0 : Nat) (b6_1 : List Int) (b8_0 : Nat) (b8_1 : List Int) (b11 : List Int) : Option (Ty1) :=
 bif (decide (((t5_1 : Nat) : Int) > 0)) then
 bif decide (0 ≤ b0_1 ∧ b0_1 ≤ 64) then
 let v22 := bif Nat.beq 64 (Int.toNat b0_1) then 0 else (Int.toNat b0_1)
 let v23 := 64 - (Int.toNat b0_1)
 bif (((Nat.ble (t5_0 + t5_1) b6_0 && true) && (Nat.ble (v22 + v23) 64)) && (Nat.beq t5_1 t5_1)) then
 let v25 := ((Nat.min t5_1 v23 : Nat) : Int)
 let v26 := spl b0_0 v22 (Nat.min t5_1 v23) (subI b6_1 t5_0 t5_1)
 bif decide (0 ≤ v25 ∧ v25 ≤ ((t5_1 : Nat) : Int)) then
 let v27 := t5_0 + (Int.toNat v25)
 let v28 := t5_1 - (Int.toNat v25)
 let v29 := IntKind.wrap .i64 (b0_1 + v25)
 bif (v29 == 64) then
 (f98.F K (b11, v26, v29, b0_2, b11)).bind fun y30 =>
 rec (v27, v28, y30.2.1, 0, y30.2.2.2.1, b1_0, b1_1, b1_2, b4_0, b4_1, b6_0, b6_1, b8_0, b8_1, y30.1)
 else
 rec (v27, v28, v26, v29, b0_2, b1_0, b1_1, b1_2, b4_0, b4_1, b6_0, b6_1, b8_0, b8_1, b11)
 else
 none
 else
 none
 else
 none
 else
 some (b0_0, b0_1, b0_2, b1_0, b1_1, b1_2, b4_0, b4_1, b6_0, b6_1, b8_0, b8_1, b11)
def s2b (K : Nat) (rec : Ty0 → Option (Ty1)) (x : Ty0) : Option (Ty1) := s2bt K rec x.1 x.2.1 x.2.2.1 x.2.2.2.1 x.2.2.2.2.1 x.2.2.2.2.2.1 x.2.2.2.2.2.2.1 x.2.2.2.2.2.2.2.1 x.2.2.2.2.2.2.2.2.1 x.2.2.2.2.2.2.2.2.2.1 x.2.2.2.2.2.2.2.2.2.2.1 x.2.2.2.2.2.2.2.2.2.2.2.1 x.2.2.2.2.2.2.2.2.2.2.2.2.1 x.2.2.2.2.2.2.2.2.2.2.2.2.2.1 x.2.2.2.2.2.2.2.2.2.2.2.2.2.2
noncomputable def s2b.b : Code := (findLoop 2 c).getD .skip
def s2b.h : Hint := { lv := [0, 5, 8, 9, 10], co := [(5, 0, [])], mv := [3] }
def s2b.ho : Hint := { lv := [0, 8, 9, 10] }
def s2b.shp (x : Ty0) : VS := ⟨[(0, .ptr 0 0), (5, .vw true 6 x.1 x.2.1 10), (8, .vw true 1 0 3 2), (9, .int .i64 3), (10, .int .i64 1)], [(0, ([.ptr 11 0, .ints .u8 64 x.2.2.1, .int .i64 x.2.2.2.1, .int .u64 x.2.2.2.2.1], 125, .norm)), (1, ([.vw true 4 0 x.2.2.2.2.2.1 5, .vw true 6 0 x.2.2.2.2.2.2.1 7, .vw true 8 0 x.2.2.2.2.2.2.2.1 9], 0, .ro)), (3, ([], 120, .dead)), (4, ([.ints .u8 x.2.2.2.2.2.2.2.2.1 x.2.2.2.2.2.2.2.2.2.1], 0, .ro)), (6, ([.ints .u8 x.2.2.2.2.2.2.2.2.2.2.1 x.2.2.2.2.2.2.2.2.2.2.2.1], 0, .ro)), (8, ([.ints .u8 x.2.2.2.2.2.2.2.2.2.2.2.2.1 x.2.2.2.2.2.2.2.2.2.2.2.2.2.1], 0, .ro)), (11, ([.ints .u32 8 x.2.2.2.2.2.2.2.2.2.2.2.2.2.2], 120, .norm))], 12⟩
def s2b.inX : VS → Option (Ty0)
 | ⟨[(0, .ptr 0 0), (5, .vw true 6 t5_0 t5_1 10), (8, .vw true 1 0 3 2), (9, .int .i64 3), (10, .int .i64 1)], [(0, ([.ptr 11 0, .ints .u8 64 b0_0, .int .i64 b0_1, .int .u64 b0_2], 125, .norm)), (1, ([.vw true 4 0 b1_0 5, .vw true 6 0 b1_1 7, .vw true 8 0 b1_2 9], 0, .ro)), (3, ([], 120, .dead)), (4, ([.ints .u8 b4_0 b4_1], 0, .ro)), (6, ([.ints .u8 b6_0 b6_1], 0, .ro)), (8, ([.ints .u8 b8_0 b8_1], 0, .ro)), (11, ([.ints .u32 8 b11], 120, .norm))], 12⟩ => some (t5_0, t5_1, b0_0, b0_1, b0_2, b1_0, b1_1, b1_2, b4_0, b4_1, b6_0, b6_1, b8_0, b8_1, b11)
 | _ => none
def s2b.o0 (y : Ty1) : VS := ⟨[(0, .ptr 0 0), (8, .vw true 1 0 3 2), (9, .int .i64 3), (10, .int .i64 1)], [(0, ([.ptr 10 0, .ints .u8 64 y.1, .int .i64 y.2.1, .int .u64 y.2.2.1], 125, .norm)), (1, ([.vw true 4 0 y.2.2.2.1 5, .vw true 6 0 y.2.2.2.2.1 7, .vw true 8 0 y.2.2.2.2.2.1 9], 0, .ro)), (3, ([], 120, .dead)), (4, ([.ints .u8 y.2.2.2.2.2.2.1 y.2.2.2.2.2.2.2.1], 0, .ro)), (6, ([.ints .u8 y.2.2.2.2.2.2.2.2.1 y.2.2.2.2.2.2.2.2.2.1], 0, .ro)), (8, ([.ints .u8 y.2.2.2.2.2.2.2.2.2.2.1 y.2.2.2.2.2.2.2.2.2.2.2.1], 0, .ro)), (10, ([.ints .u32 8 y.2.2.2.2.2.2.2.2.2.2.2.2], 120, .norm))], 11⟩
def s2b.des : ∀ α : Type, (Ty1) → (Ex → VS → Option α) → Option α := (des1 (.exit 2) s2b.o0)
def s2b.out : Ty1 → Ex × VS := (fun y => (.exit 2, s2b.o0 y))
theorem s2b.desOK : ∀ α y (k : Ex → VS → Option α), s2b.des α y k = k (s2b.out y).1 (s2b.out y).2 := (fun _ _ _ => rfl)
def s2b.inY : Ex → VS → Option (Ty1)
 | .exit 2, ⟨[(0, .ptr 0 0), (8, .vw true 1 0 3 2), (9, .int .i64 3), (10, .int .i64 1)], [(0, ([.ptr 10 0, .ints .u8 64 b0_0, .int .i64 b0_1, .int .u64 b0_2], 125, .norm)), (1, ([.vw true 4 0 b1_0 5, .vw true 6 0 b1_1 7, .vw true 8 0 b1_2 9], 0, .ro)), (3, ([], 120, .dead)), (4, ([.ints .u8 b4_0 b4_1], 0, .ro)), (6, ([.ints .u8 b6_0 b6_1], 0, .ro)), (8, ([.ints .u8 b8_0 b8_1], 0, .ro)), (10, ([.ints .u32 8 b10], 120, .norm))], 11⟩ => some (b0_0, b0_1, b0_2, b1_0, b1_1, b1_2, b4_0, b4_1, b6_0, b6_1, b8_0, b8_1, b10)
 | _, _ => none
def s2ct (K : Nat) (rec : Ty0 → Option (Ty1)) (t5_0 : Nat) (t5_1 : Nat) (b0_0 : List Int) (b0_1 : Int) (b0_2 : Int) (b1_0 : Nat) (b1_1 : Nat) (b1_2 : Nat) (b4_0 : Nat) (b4_1 : List Int) (b6_0 : Nat) (b6_1 : List Int) (b8_0 : Nat) (b8_1 : List Int) (b11 : List Int) : Option (Ty1) :=
 bif (decide (((t5_1 : Nat) : Int) > 0)) then
 bif decide (0 ≤ b0_1 ∧ b0_1 ≤ 64) then
 let v38 := bif Nat.beq 64 (Int.toNat b0_1) then 0 else (Int.toNat b0_1)
 let v39 := 64 - (Int.toNat b0_1)
 bif (((Nat.ble (t5_0 + t5_1) b8_0 && true) && (Nat.ble (v38 + v39) 64)) && (Nat.beq t5_1 t5_1)) then
 let v41 := ((Nat.min t5_1 v39 : Nat) : Int)
 let v42 := spl b0_0 v38 (Nat.min t5_1 v39) (subI b8_1 t5_0 t5_1)
 bif decide (0 ≤ v41 ∧ v41 ≤ ((t5_1 : Nat) : Int)) then
 let v43 := t5_0 + (Int.toNat v41)
 let v44 := t5_1 - (Int.toNat v41)
 let v45 := IntKind.wrap .i64 (b0_1 + v41)
 bif (v45 == 64) then
 (f98.F K (b11, v42, v45, b0_2, b11)).bind fun y46 =>
 rec (v43, v44, y46.2.1, 0, y46.2.2.2.1, b1_0, b1_1, b1_2, b4_0, b4_1, b6_0, b6_1, b8_0, b8_1, y46.1)
 else
 rec (v43, v44, v42, v45, b0_2, b1_0, b1_1, b1_2, b4_0, b4_1, b6_0, b6_1, b8_0, b8_1, b11)
 else
 none
 else
 none
 else
 none
 else
 some (b0_0, b0_1, b0_2, b1_0, b1_1, b1_2, b4_0, b4_1, b6_0, b6_1, b8_0, b8_1, b11)
def s2c (K : Nat) (rec : Ty0 → Option (Ty1)) (x : Ty0) : Option (Ty1) := s2ct K rec x.1 x.2.1 x.2.2.1 x.2.2.2.1 x.2.2.2.2.1 x.2.2.2.2.2.1 x.2.2.2.2.2.2.1 x.2.2.2.2.2.2.2.1 x.2.2.2.2.2.2.2.2.1 x.2.2.2.2.2.2.2.2.2.1 x.2.2.2.2.2.2.2.2.2.2.1 x.2.2.2.2.2.2.2.2.2.2.2.1 x.2.2.2.2.2.2.2.2.2.2.2.2.1 x.2.2.2.2.2.2.2.2.2.2.2.2.2.1 x.2.2.2.2.2.2.2.2.2.2.2.2.2.2
noncomputable def s2c.b : Code := (findLoop 2 c).getD .skip
def s2c.h : Hint := { lv := [0, 5, 8, 9, 10], co := [(5, 0, [])], mv := [3] }
def s2c.ho : Hint := { lv := [0, 8, 9, 10] }
def s2c.shp (x : Ty0) : VS := ⟨[(0, .ptr 0 0), (5, .vw true 8 x.1 x.2.1 10), (8, .vw true 1 0 3 2), (9, .int .i64 3), (10, .int .i64 2)], [(0, ([.ptr 11 0, .ints .u8 64 x.2.2.1, .int .i64 x.2.2.2.1, .int .u64 x.2.2.2.2.1], 125, .norm)), (1, ([.vw true 4 0 x.2.2.2.2.2.1 5, .vw true 6 0 x.2.2.2.2.2.2.1 7, .vw true 8 0 x.2.2.2.2.2.2.2.1 9], 0, .ro)), (3, ([], 120, .dead)), (4, ([.ints .u8 x.2.2.2.2.2.2.2.2.1 x.2.2.2.2.2.2.2.2.2.1], 0, .ro)), (6, ([.ints .u8 x.2.2.2.2.2.2.2.2.2.2.1 x.2.2.2.2.2.2.2.2.2.2.2.1], 0, .ro)), (8, ([.ints .u8 x.2.2.2.2.2.2.2.2.2.2.2.2.1 x.2.2.2.2.2.2.2.2.2.2.2.2.2.1], 0, .ro)), (11, ([.ints .u32 8 x.2.2.2.2.2.2.2.2.2.2.2.2.2.2], 120, .norm))], 12⟩
def s2c.inX : VS → Option (Ty0)
 | ⟨[(0, .ptr 0 0), (5, .vw true 8 t5_0 t5_1 10), (8, .vw true 1 0 3 2), (9, .int .i64 3), (10, .int .i64 2)], [(0, ([.ptr 11 0, .ints .u8 64 b0_0, .int .i64 b0_1, .int .u64 b0_2], 125, .norm)), (1, ([.vw true 4 0 b1_0 5, .vw true 6 0 b1_1 7, .vw true 8 0 b1_2 9], 0, .ro)), (3, ([], 120, .dead)), (4, ([.ints .u8 b4_0 b4_1], 0, .ro)), (6, ([.ints .u8 b6_0 b6_1], 0, .ro)), (8, ([.ints .u8 b8_0 b8_1], 0, .ro)), (11, ([.ints .u32 8 b11], 120, .norm))], 12⟩ => some (t5_0, t5_1, b0_0, b0_1, b0_2, b1_0, b1_1, b1_2, b4_0, b4_1, b6_0, b6_1, b8_0, b8_1, b11)
 | _ => none
def s2c.o0 (y : Ty1) : VS := ⟨[(0, .ptr 0 0), (8, .vw true 1 0 3 2), (9, .int .i64 3), (10, .int .i64 2)], [(0, ([.ptr 10 0, .ints .u8 64 y.1, .int .i64 y.2.1, .int .u64 y.2.2.1], 125, .norm)), (1, ([.vw true 4 0 y.2.2.2.1 5, .vw true 6 0 y.2.2.2.2.1 7, .vw true 8 0 y.2.2.2.2.2.1 9], 0, .ro)), (3, ([], 120, .dead)), (4, ([.ints .u8 y.2.2.2.2.2.2.1 y.2.2.2.2.2.2.2.1], 0, .ro)), (6, ([.ints .u8 y.2.2.2.2.2.2.2.2.1 y.2.2.2.2.2.2.2.2.2.1], 0, .ro)), (8, ([.ints .u8 y.2.2.2.2.2.2.2.2.2.2.1 y.2.2.2.2.2.2.2.2.2.2.2.1], 0, .ro)), (10, ([.ints .u32 8 y.2.2.2.2.2.2.2.2.2.2.2.2], 120, .norm))], 11⟩
def s2c.des : ∀ α : Type, (Ty1) → (Ex → VS → Option α) → Option α := (des1 (.exit 2) s2c.o0)
def s2c.out : Ty1 → Ex × VS := (fun y => (.exit 2, s2c.o0 y))
theorem s2c.desOK : ∀ α y (k : Ex → VS → Option α), s2c.des α y k = k (s2c.out y).1 (s2c.out y).2 := (fun _ _ _ => rfl)
def s2c.inY : Ex → VS → Option (Ty1)
 | .exit 2, ⟨[(0, .ptr 0 0), (8, .vw true 1 0 3 2), (9, .int .i64 3), (10, .int .i64 2)], [(0, ([.ptr 10 0, .ints .u8 64 b0_0, .int .i64 b0_1, .int .u64 b0_2], 125, .norm)), (1, ([.vw true 4 0 b1_0 5, .vw true 6 0 b1_1 7, .vw true 8 0 b1_2 9], 0, .ro)), (3, ([], 120, .dead)), (4, ([.ints .u8 b4_0 b4_1], 0, .ro)), (6, ([.ints .u8 b6_0 b6_1], 0, .ro)), (8, ([.ints .u8 b8_0 b8_1], 0, .ro)), (10, ([.ints .u32 8 b10], 120, .norm))], 11⟩ => some (b0_0, b0_1, b0_2, b1_0, b1_1, b1_2, b4_0, b4_1, b6_0, b6_1, b8_0, b8_1, b10)
 | _, _ => none
def lp (K : Nat) : Nat → Option (Hint × Summ) := tabLp [(2, s2.h, summOr s2.inX (summOf (iter (s2 K) K) s2.inX s2.des) (summOr s2b.inX (summOf (iter (s2b K) K) s2b.inX s2b.des) (summOf (iter (s2c K) K) s2c.inX s2c.des)))]
noncomputable def tab (K : Nat) : List (Nat × Entry) := [(98, (f98.E K))]
theorem tabOK (K : Nat) : SpecOK Tryz.prog (tabSp (tab K)) := tab_ok ((tab_cons (f98.ok K) tab_nil))
theorem s2.eq (K : Nat) (rec : Ty0 → Option (Ty1)) (x : Ty0) : s2 K rec x = roundL (getA tys) (tabSp (tab K)) 76 10 (lp K) 400 s2.b s2.h s2.ho s2.shp s2.inX s2.inY rec x := by kernel_rfl
theorem s2.lok (K : Nat) : LoopsOK Tryz.prog 76 10 (lp K) s2.b := loops_ok (by
  have h : loopsIn (lp K) s2.b = [] := by kernel_rfl
  rw [h]; simp)
theorem s2.ok (K : Nat) : SummOK Tryz.prog 76 10 (summOf (iter (s2 K) K) s2.inX s2.des) s2.b :=
  loop_ok mix tys_ok (tabOK K) (h := s2.h) (ho := s2.ho) (shp := s2.shp) (inX := s2.inX) (des := s2.des) (out := s2.out) (inY := s2.inY) (fuel := 400)
    (by intro st x h; unfold s2.inX at h; split at h <;> simp at h; subst h; rfl)
    (by intro e st y h; unfold s2.inY at h; split at h <;> simp at h <;> subst h <;> rfl)
    s2.desOK (s2.lok K) (s2 K) (s2.eq K) K
theorem s2b.eq (K : Nat) (rec : Ty0 → Option (Ty1)) (x : Ty0) : s2b K rec x = roundL (getA tys) (tabSp (tab K)) 76 10 (lp K) 400 s2b.b s2b.h s2b.ho s2b.shp s2b.inX s2b.inY rec x := by kernel_rfl
theorem s2b.lok (K : Nat) : LoopsOK Tryz.prog 76 10 (lp K) s2b.b := loops_ok (by
  have h : loopsIn (lp K) s2b.b = [] := by kernel_rfl
  rw [h]; simp)
theorem s2b.ok (K : Nat) : SummOK Tryz.prog 76 10 (summOf (iter (s2b K) K) s2b.inX s2b.des) s2b.b :=
  loop_ok mix tys_ok (tabOK K) (h := s2b.h) (ho := s2b.ho) (shp := s2b.shp) (inX := s2b.inX) (des := s2b.des) (out := s2b.out) (inY := s2b.inY) (fuel := 400)
    (by intro st x h; unfold s2b.inX at h; split at h <;> simp at h; subst h; rfl)
    (by intro e st y h; unfold s2b.inY at h; split at h <;> simp at h <;> subst h <;> rfl)
    s2b.desOK (s2b.lok K) (s2b K) (s2b.eq K) K
theorem s2c.eq (K : Nat) (rec : Ty0 → Option (Ty1)) (x : Ty0) : s2c K rec x = roundL (getA tys) (tabSp (tab K)) 76 10 (lp K) 400 s2c.b s2c.h s2c.ho s2c.shp s2c.inX s2c.inY rec x := by kernel_rfl
theorem s2c.lok (K : Nat) : LoopsOK Tryz.prog 76 10 (lp K) s2c.b := loops_ok (by
  have h : loopsIn (lp K) s2c.b = [] := by kernel_rfl
  rw [h]; simp)
theorem s2c.ok (K : Nat) : SummOK Tryz.prog 76 10 (summOf (iter (s2c K) K) s2c.inX s2c.des) s2c.b :=
  loop_ok mix tys_ok (tabOK K) (h := s2c.h) (ho := s2c.ho) (shp := s2c.shp) (inX := s2c.inX) (des := s2c.des) (out := s2c.out) (inY := s2c.inY) (fuel := 400)
    (by intro st x h; unfold s2c.inX at h; split at h <;> simp at h; subst h; rfl)
    (by intro e st y h; unfold s2c.inY at h; split at h <;> simp at h <;> subst h <;> rfl)
    s2c.desOK (s2c.lok K) (s2c K) (s2c.eq K) K
theorem loops (K : Nat) : LoopsOK Tryz.prog 76 10 (lp K) c := loops_ok (by
  have h : loopsIn (lp K) c = [(2, s2.b)] := by kernel_rfl
  rw [h]
  intro p hp
  simp only [List.mem_cons, List.not_mem_nil, or_false] at hp
  rcases hp with rfl
  · exact ⟨_, rfl, (summOr_ok (s2.ok K) (summOr_ok (s2b.ok K) (s2c.ok K)))⟩)
def T (K : Nat) (m0_0 : List Int) (m0_1 : Int) (m0_2 : Int) (m1_0 : Nat) (m1_1 : Nat) (m1_2 : Nat) (m3 : List Int) (m4_0 : Nat) (m4_1 : List Int) (m6_0 : Nat) (m6_1 : List Int) (m8_0 : Nat) (m8_1 : List Int) : Option (Ty1) :=
 (iter (s2 K) K (0, m1_0, m0_0, m0_1, (IntKind.wrap .u64 (m0_2 + (IntKind.wrap .u64 ((m1_0 : Nat) : Int)))), m1_0, m1_1, m1_2, m4_0, m4_1, m6_0, m6_1, m8_0, m8_1, m3)).bind fun y15 =>
 let v16 := y15.2.2.2.2.1
 (iter (s2b K) K (0, v16, y15.1, y15.2.1, (IntKind.wrap .u64 (y15.2.2.1 + (IntKind.wrap .u64 ((v16 : Nat) : Int)))), y15.2.2.2.1, y15.2.2.2.2.1, y15.2.2.2.2.2.1, y15.2.2.2.2.2.2.1, y15.2.2.2.2.2.2.2.1, y15.2.2.2.2.2.2.2.2.1, y15.2.2.2.2.2.2.2.2.2.1, y15.2.2.2.2.2.2.2.2.2.2.1, y15.2.2.2.2.2.2.2.2.2.2.2.1, y15.2.2.2.2.2.2.2.2.2.2.2.2)).bind fun y31 =>
 let v32 := y31.2.2.2.2.2.1
 (iter (s2c K) K (0, v32, y31.1, y31.2.1, (IntKind.wrap .u64 (y31.2.2.1 + (IntKind.wrap .u64 ((v32 : Nat) : Int)))), y31.2.2.2.1, y31.2.2.2.2.1, y31.2.2.2.2.2.1, y31.2.2.2.2.2.2.1, y31.2.2.2.2.2.2.2.1, y31.2.2.2.2.2.2.2.2.1, y31.2.2.2.2.2.2.2.2.2.1, y31.2.2.2.2.2.2.2.2.2.2.1, y31.2.2.2.2.2.2.2.2.2.2.2.1, y31.2.2.2.2.2.2.2.2.2.2.2.2)).bind fun y47 =>
 some (y47.1, y47.2.1, y47.2.2.1, y47.2.2.2.1, y47.2.2.2.2.1, y47.2.2.2.2.2.1, y47.2.2.2.2.2.2.1, y47.2.2.2.2.2.2.2.1, y47.2.2.2.2.2.2.2.2.1, y47.2.2.2.2.2.2.2.2.2.1, y47.2.2.2.2.2.2.2.2.2.2.1, y47.2.2.2.2.2.2.2.2.2.2.2.1, y47.2.2.2.2.2.2.2.2.2.2.2.2)
def F (K : Nat) (x : Ty2) : Option (Ty1) := T K x.1 x.2.1 x.2.2.1 x.2.2.2.1 x.2.2.2.2.1 x.2.2.2.2.2.1 x.2.2.2.2.2.2.1 x.2.2.2.2.2.2.2.1 x.2.2.2.2.2.2.2.2.1 x.2.2.2.2.2.2.2.2.2.1 x.2.2.2.2.2.2.2.2.2.2.1 x.2.2.2.2.2.2.2.2.2.2.2.1 x.2.2.2.2.2.2.2.2.2.2.2.2
def av (_x : Ty2) : List VV := [.ptr 0 0, .vw true 1 0 3 2]
def bl (x : Ty2) : List (Nat × Blk) := [(0, ([.ptr 3 0, .ints .u8 64 x.1, .int .i64 x.2.1, .int .u64 x.2.2.1], 125, .norm)), (1, ([.vw true 4 0 x.2.2.2.1 5, .vw true 6 0 x.2.2.2.2.1 7, .vw true 8 0 x.2.2.2.2.2.1 9], 0, .ro)), (3, ([.ints .u32 8 x.2.2.2.2.2.2.1], 120, .norm)), (4, ([.ints .u8 x.2.2.2.2.2.2.2.1 x.2.2.2.2.2.2.2.2.1], 0, .ro)), (6, ([.ints .u8 x.2.2.2.2.2.2.2.2.2.1 x.2.2.2.2.2.2.2.2.2.2.1], 0, .ro)), (8, ([.ints .u8 x.2.2.2.2.2.2.2.2.2.2.2.1 x.2.2.2.2.2.2.2.2.2.2.2.2], 0, .ro))]
def inA : VS → Option (Ty2)
 | ⟨[(0, .ptr 0 0), (1, .vw true 1 0 3 2)], [(0, ([.ptr 3 0, .ints .u8 64 m0_0, .int .i64 m0_1, .int .u64 m0_2], 125, .norm)), (1, ([.vw true 4 0 m1_0 5, .vw true 6 0 m1_1 7, .vw true 8 0 m1_2 9], 0, .ro)), (3, ([.ints .u32 8 m3], 120, .norm)), (4, ([.ints .u8 m4_0 m4_1], 0, .ro)), (6, ([.ints .u8 m6_0 m6_1], 0, .ro)), (8, ([.ints .u8 m8_0 m8_1], 0, .ro))], 10⟩ => some (m0_0, m0_1, m0_2, m1_0, m1_1, m1_2, m3, m4_0, m4_1, m6_0, m6_1, m8_0, m8_1)
 | _ => none
def o0 (y : Ty1) : VS := ⟨[(0, .tup [])], [(0, ([.ptr 10 0, .ints .u8 64 y.1, .int .i64 y.2.1, .int .u64 y.2.2.1], 125, .norm)), (1, ([.vw true 4 0 y.2.2.2.1 5, .vw true 6 0 y.2.2.2.2.1 7, .vw true 8 0 y.2.2.2.2.2.1 9], 0, .ro)), (3, ([], 120, .dead)), (4, ([.ints .u8 y.2.2.2.2.2.2.1 y.2.2.2.2.2.2.2.1], 0, .ro)), (6, ([.ints .u8 y.2.2.2.2.2.2.2.2.1 y.2.2.2.2.2.2.2.2.2.1], 0, .ro)), (8, ([.ints .u8 y.2.2.2.2.2.2.2.2.2.2.1 y.2.2.2.2.2.2.2.2.2.2.2.1], 0, .ro)), (10, ([.ints .u32 8 y.2.2.2.2.2.2.2.2.2.2.2.2], 120, .norm))], 11⟩
def des : ∀ α : Type, (Ty1) → (VS → Option α) → Option α := (dv1 o0)
def out : Ty1 → VS := o0
def inR : VS → Option (Ty1)
 | ⟨[(0, .tup [])], [(0, ([.ptr 10 0, .ints .u8 64 z0_0, .int .i64 z0_1, .int .u64 z0_2], 125, .norm)), (1, ([.vw true 4 0 z1_0 5, .vw true 6 0 z1_1 7, .vw true 8 0 z1_2 9], 0, .ro)), (3, ([], 120, .dead)), (4, ([.ints .u8 z4_0 z4_1], 0, .ro)), (6, ([.ints .u8 z6_0 z6_1], 0, .ro)), (8, ([.ints .u8 z8_0 z8_1], 0, .ro)), (10, ([.ints .u32 8 z10], 120, .norm))], 11⟩ => some (z0_0, z0_1, z0_2, z1_0, z1_1, z1_2, z4_0, z4_1, z6_0, z6_1, z8_0, z8_1, z10)
 | _ => none
noncomputable def E (K : Nat) : Entry := genE 10 inA (F K) des
theorem eq (K : Nat) (x : Ty2) : F K x = xrun (getA tys) (tabSp (tab K)) Tryz.f76.ntmps 10 (lp K) 400 c ⟨initL 0 (av x), bl x, 10⟩ (contF (getA tys) 10 Tryz.f76.results.toList inR) := by kernel_rfl
theorem ok (K : Nat) : EntryOK Tryz.prog 76 (E K) :=
  gen_ok mix tys_ok (tabOK K) Tryz.func76 (by kernel_rfl : Tryz.f76.body = some c) (by kernel_rfl) (loops K) (av := av) (bl := bl) (out := out) (fuel := 400)
    (by intro s x h; unfold inA at h; split at h <;> simp at h; subst h; rfl) (fun _ => Nat.le_of_ble_eq_true rfl)
    (by intro s y h; unfold inR at h; split at h <;> simp at h <;> subst h <;> rfl) (fun _ _ _ => rfl) (eq K)
end f76v2
end Go.Proofs

namespace Go.Proofs
open Go.VM
def Sh.init : List Int := [1779033703, 3144134277, 1013904242, 2773480762, 1359893119, 2600822924, 528734635, 1541459225]
def Sh.chain (m : List Int) : Nat → List Int
  | 0 => Sh.init
  | n + 1 => Sh.comp (Sh.chain m n) ((m.drop (64 * n)).take 64)
theorem Sh.chain_append (m q : List Int) : ∀ n, 64 * n ≤ m.length → Sh.chain (m ++ q) n = Sh.chain m n
  | 0, _ => rfl
  | n + 1, h => by
    rw [Sh.chain, Sh.chain, Sh.chain_append m q n (by omega), List.drop_append_of_le_length (by omega), List.take_append_of_le_length (by simp; omega)]
structure Sh.Rep (m : List Int) (b : List Int) (h : Int) (s : List Int) : Prop where
  len : b.length = 64
  oct : octets b
  held : h = ((m.length % 64 : Nat) : Int)
  rest : b.take (m.length % 64) = m.drop (64 * (m.length / 64))
  st : s = Sh.chain m (m.length / 64)
theorem padT_take (l : List Int) (n : Nat) (h : n ≤ l.length) : padT l n = l.take n := by
  have := subI_cut l 0 n (by omega)
  rw [List.drop_zero] at this
  rw [← this]
  simp [padT, subI]
theorem Sh.Rep.block {m b s : List Int} {h : Int} (R : Sh.Rep m b h s) (q L : List Int) (k : Nat) (hk : q.length = k) (hL : L.take k = q) (hle : k ≤ L.length) (hr : m.length % 64 + k ≤ 64) :
    spl b (m.length % 64) k L = m.drop (64 * (m.length / 64)) ++ q ++ b.drop (m.length % 64 + k) := by
  rw [spl, padT_take b _ (by have := R.len; omega), padT_take L k hle, hL, R.rest]
theorem Sh.Rep.some {m b s : List Int} {h : Int} (R : Sh.Rep m b h s) (q L : List Int) (k : Nat) (hk : q.length = k) (ho : octets L) (hL : L.take k = q) (hle : k ≤ L.length) (hr : m.length % 64 + k < 64) :
    Sh.Rep (m ++ q) (spl b (m.length % 64) k L) (h + k) s := by
  have e := R.block q L k hk hL hle (by omega)
  have l1 : (m ++ q).length / 64 = m.length / 64 := by rw [List.length_append]; omega
  have l2 : (m ++ q).length % 64 = m.length % 64 + k := by rw [List.length_append]; omega
  have d : (m.drop (64 * (m.length / 64))).length = m.length % 64 := by rw [List.length_drop]; omega
  refine ⟨?_, octets_spl R.oct ho _ _, ?_, ?_, ?_⟩
  · have dd : (b.drop (m.length % 64 + k)).length = 64 - (m.length % 64 + k) := by rw [List.length_drop, R.len]
    rw [e, List.length_append, List.length_append, dd, d, hk]; omega
  · rw [R.held, l2]; omega
  · rw [l1, l2, e, List.take_append_of_le_length (by rw [List.length_append, d]; omega), List.take_of_length_le (by rw [List.length_append, d]; omega), List.drop_append_of_le_length (by omega)]
  · rw [l1, Sh.chain_append _ _ _ (by omega)]; exact R.st
theorem Sh.Rep.full {m b s : List Int} {h : Int} (R : Sh.Rep m b h s) (q L : List Int) (k : Nat) (hk : q.length = k) (ho : octets L) (hL : L.take k = q) (hle : k ≤ L.length) (hr : m.length % 64 + k = 64) :
    Sh.Rep (m ++ q) (spl b (m.length % 64) k L) 0 (Sh.comp s (spl b (m.length % 64) k L)) := by
  have e := R.block q L k hk hL hle (by omega)
  have l1 : (m ++ q).length / 64 = m.length / 64 + 1 := by rw [List.length_append]; omega
  have l2 : (m ++ q).length % 64 = 0 := by rw [List.length_append]; omega
  have d : (m.drop (64 * (m.length / 64))).length = m.length % 64 := by rw [List.length_drop]; omega
  have eb : b.drop (m.length % 64 + k) = [] := List.drop_of_length_le (by have := R.len; omega)
  rw [eb, List.append_nil] at e
  refine ⟨?_, octets_spl R.oct ho _ _, ?_, ?_, ?_⟩
  · rw [e, List.length_append, d]; omega
  · rw [l2]; rfl
  · rw [l1, l2, List.take_zero, List.drop_of_length_le (by rw [List.length_append]; omega)]
  · rw [l1, Sh.chain, Sh.chain_append _ _ _ (by omega), ← R.st, List.drop_append_of_le_length (by omega), e, List.take_of_length_le (by rw [List.length_append, d]; omega)]
theorem sub_take (p : List Int) (off rem k : Nat) (h : off + rem = p.length) (hk : k ≤ rem) : p.take (off + k) = p.take off ++ (subI p off rem).take k := by
  rw [subI_cut p off rem (by omega), List.take_take, Nat.min_eq_left hk, List.take_add]
theorem tot_add (m n : Nat) : IntKind.wrap .u64 (((m % 18446744073709551616 : Nat) : Int) + (IntKind.wrap .u64 ((n : Nat) : Int))) = (((m + n) % 18446744073709551616 : Nat) : Int) := by
  rw [wrap_nat, show ∀ a b : Nat, ((a : Int) + (b : Int)) = ((a + b : Nat) : Int) from fun a b => rfl, wrap_nat]
  congr 1
  omega
theorem Sh.take_all {T O : Type} {stp : (T → Option O) → T → Option O} (p : List Int) (pack : Nat → Nat → List Int → Int → List Int → T) (fin : List Int → Int → List Int → O)
    (hend : ∀ rec off b h s, stp rec (pack off 0 b h s) = some (fin b h s))
    (hgo : ∀ rec off rem b r k s, off + rem = p.length → 0 < rem → r < 64 → min rem (64 - r) = k → octets (spl b r k (subI p off rem)) → stp rec (pack off rem b (r : Int) s) = if r + k = 64 then rec (pack (off + k) (rem - k) (spl b r k (subI p off rem)) 0 (Sh.comp s (spl b r k (subI p off rem)))) else rec (pack (off + k) (rem - k) (spl b r k (subI p off rem)) ((r + k : Nat) : Int) s))
    (K : Nat) (m : List Int) (ho : octets p) (b s : List Int) (h : Int) (R : Sh.Rep m b h s) (hK2 : 2 * ((m.length % 64 + p.length) / 64) + 1 < K) :
    ∃ b' h' s', iter stp K (pack 0 p.length b h s) = some (fin b' h' s') ∧ Sh.Rep (m ++ p) b' h' s' := by
  refine Exists.elim (iter_inv (stp := stp)
    (fun n x => ∃ off rem b h s, x = pack off rem b h s ∧ off + rem = p.length ∧ Sh.Rep (m ++ p.take off) b h s ∧ 2 * (((m ++ p.take off).length % 64 + rem) / 64) + (if rem = 0 then 0 else 1) = n)
    (fun y => ∃ b' h' s', y = fin b' h' s' ∧ Sh.Rep (m ++ p) b' h' s') ?_ (2 * ((m.length % 64 + p.length) / 64) + (if p.length = 0 then 0 else 1)) (pack 0 p.length b h s)
    ⟨0, p.length, b, h, s, rfl, by omega, by rw [List.take_zero, List.append_nil]; exact R, by rw [List.take_zero, List.append_nil]⟩ K (by split <;> omega)) ?_
  · intro n x hx
    obtain ⟨off, rem, b, h, s, rfl, hsum, R, hm⟩ := hx
    rcases Nat.eq_zero_or_pos rem with h0 | h0
    · subst h0
      refine Or.inl ⟨_, ⟨b, h, s, rfl, ?_⟩, fun rec => hend rec off b h s⟩
      rw [List.take_of_length_le (by omega)] at R; exact R
    · refine Or.inr ?_
      generalize hM : m ++ p.take off = M at R hm
      have hd := R.held
      have hr : M.length % 64 < 64 := Nat.mod_lt _ (by decide)
      generalize hk : min rem (64 - M.length % 64) = k
      have hk1 : k ≤ rem := by omega
      have es : M ++ (subI p off rem).take k = m ++ p.take (off + k) := by rw [sub_take p off rem k hsum hk1, ← List.append_assoc, hM]
      have hq : ((subI p off rem).take k).length = k := by rw [List.length_take, subI_length]; omega
      have hob := octets_spl R.oct (octets_sub ho off rem) (M.length % 64) k
      have go := fun rec => hgo rec off rem b (M.length % 64) k s hsum h0 hr hk hob
      rcases Nat.lt_or_ge (M.length % 64 + k) 64 with hc | hc
      · have R' := R.some _ (subI p off rem) k hq (octets_sub ho off rem) rfl (by rw [subI_length]; exact hk1) hc
        rw [es, hd, show ((M.length % 64 : Nat) : Int) + (k : Int) = ((M.length % 64 + k : Nat) : Int) from by omega] at R'
        refine ⟨_, _, ?_, ⟨off + k, rem - k, _, _, s, rfl, by omega, R', rfl⟩, fun rec => by rw [hd, go rec, if_neg (by omega)]⟩
        rw [← es, List.length_append, hq, ← hm, if_neg (show rem ≠ 0 by omega), if_pos (show rem - k = 0 by omega)]
        have : (M.length + k) % 64 + (rem - k) = M.length % 64 + rem := by omega
        rw [this]; omega
      · have hc' : M.length % 64 + k = 64 := by omega
        have R' := R.full _ (subI p off rem) k hq (octets_sub ho off rem) rfl (by rw [subI_length]; exact hk1) hc'
        rw [es] at R'
        refine ⟨_, _, ?_, ⟨off + k, rem - k, _, _, _, rfl, by omega, R', rfl⟩, fun rec => by rw [hd, go rec, if_pos hc']⟩
        rw [← es, List.length_append, hq, ← hm, if_neg (show rem ≠ 0 by omega)]
        split <;> omega
  · rintro y ⟨⟨b', h', s', rfl, hR⟩, hy⟩
    exact ⟨b', h', s', hy, hR⟩
theorem f76.s2_ok (K : Nat) (m : List Int) (mn : Int) (k0 : Nat) (k1 : Nat) (n0 : Nat) (l0 : List Int) (n1 : Nat) (l1 : List Int) (hl : l0.length = n0) (ho : octets l0) (hn : n0 ≤ 1000000000000) (hK : 64 < K) (b s : List Int) (h : Int) (R : Sh.Rep m b h s) (hK2 : 2 * ((m.length % 64 + n0) / 64) + 1 < K) :
    ∃ b' h' s', iter (f76.s2 K) K (0, n0, b, h, mn, k0, k1, n0, l0, n1, l1, s) = some (b', h', mn, k0, k1, n0, l0, n1, l1, s') ∧ Sh.Rep (m ++ l0) b' h' s' := by
  subst hl
  refine Sh.take_all l0 (fun off rem b h s => (off, rem, b, h, mn, k0, k1, l0.length, l0, n1, l1, s)) (fun b h s => (b, h, mn, k0, k1, l0.length, l0, n1, l1, s)) (fun rec off b h s => ?_) (fun rec off rem b r k s hsum h0 hr hk hob => ?_) K m ho b s h R hK2
  · simp only [f76.s2, f76.s2t]
    rw [decide_eq_false (show ¬ (((0 : Nat) : Int) > 0) by omega), cond_f]
  · have e6 : (bif Nat.beq 64 r then 0 else r) = r := by rw [show Nat.beq 64 r = false from (by rw [← Bool.not_eq_true, Nat.beq_eq]; omega), cond_f]
    have e9 : Nat.min rem (64 - r) = k := hk
    simp only [f76.s2, f76.s2t]
    rw [decide_eq_true (show (((rem : Nat) : Int) > 0) by omega), cond_t, decide_eq_true (show (0 : Int) ≤ (r : Int) ∧ (r : Int) ≤ 64 by omega), cond_t]
    simp only [Int.toNat_natCast, e6, e9]
    rw [ble_true (show off + rem ≤ l0.length by omega), ble_true (show r + (64 - r) ≤ 64 by omega), show Nat.beq rem rem = true from Nat.beq_refl rem, Bool.and_self, Bool.and_self, Bool.and_self, cond_t, decide_eq_true (show (0 : Int) ≤ (k : Int) ∧ (k : Int) ≤ (rem : Int) by omega), cond_t,
      show IntKind.wrap .i64 ((r : Int) + (k : Int)) = ((r + k : Nat) : Int) by rw [wrap_i _ (by omega) (by omega)]; omega]
    by_cases hc : r + k = 64
    · rw [if_pos hc, show (((r + k : Nat) : Int) == 64) = true from beq_iff_eq.2 (by omega), cond_t, f98.spec K s _ _ mn hob hK, bind_s]
    · rw [if_neg hc, show (((r + k : Nat) : Int) == 64) = false from beq_eq_false_iff_ne.2 (by omega), cond_f]
theorem f76.s2b_ok (K : Nat) (m : List Int) (mn : Int) (k0 : Nat) (k1 : Nat) (n0 : Nat) (l0 : List Int) (n1 : Nat) (l1 : List Int) (hl : l1.length = n1) (ho : octets l1) (hn : n1 ≤ 1000000000000) (hK : 64 < K) (b s : List Int) (h : Int) (R : Sh.Rep m b h s) (hK2 : 2 * ((m.length % 64 + n1) / 64) + 1 < K) :
    ∃ b' h' s', iter (f76.s2b K) K (0, n1, b, h, mn, k0, k1, n0, l0, n1, l1, s) = some (b', h', mn, k0, k1, n0, l0, n1, l1, s') ∧ Sh.Rep (m ++ l1) b' h' s' := by
  subst hl
  refine Sh.take_all l1 (fun off rem b h s => (off, rem, b, h, mn, k0, k1, n0, l0, l1.length, l1, s)) (fun b h s => (b, h, mn, k0, k1, n0, l0, l1.length, l1, s)) (fun rec off b h s => ?_) (fun rec off rem b r k s hsum h0 hr hk hob => ?_) K m ho b s h R hK2
  · simp only [f76.s2b, f76.s2bt]
    rw [decide_eq_false (show ¬ (((0 : Nat) : Int) > 0) by omega), cond_f]
  · have e6 : (bif Nat.beq 64 r then 0 else r) = r := by rw [show Nat.beq 64 r = false from (by rw [← Bool.not_eq_true, Nat.beq_eq]; omega), cond_f]
    have e9 : Nat.min rem (64 - r) = k := hk
    simp only [f76.s2b, f76.s2bt]
    rw [decide_eq_true (show (((rem : Nat) : Int) > 0) by omega), cond_t, decide_eq_true (show (0 : Int) ≤ (r : Int) ∧ (r : Int) ≤ 64 by omega), cond_t]
    simp only [Int.toNat_natCast, e6, e9]
    rw [ble_true (show off + rem ≤ l1.length by omega), ble_true (show r + (64 - r) ≤ 64 by omega), show Nat.beq rem rem = true from Nat.beq_refl rem, Bool.and_self, Bool.and_self, Bool.and_self, cond_t, decide_eq_true (show (0 : Int) ≤ (k : Int) ∧ (k : Int) ≤ (rem : Int) by omega), cond_t,
      show IntKind.wrap .i64 ((r : Int) + (k : Int)) = ((r + k : Nat) : Int) by rw [wrap_i _ (by omega) (by omega)]; omega]
    by_cases hc : r + k = 64
    · rw [if_pos hc, show (((r + k : Nat) : Int) == 64) = true from beq_iff_eq.2 (by omega), cond_t, f98.spec K s _ _ mn hob hK, bind_s]
    · rw [if_neg hc, show (((r + k : Nat) : Int) == 64) = false from beq_eq_false_iff_ne.2 (by omega), cond_f]
theorem f76v1.s2_ok (K : Nat) (m : List Int) (mn : Int) (k0 : Nat) (n0 : Nat) (l0 : List Int) (hl : l0.length = n0) (ho : octets l0) (hn : n0 ≤ 1000000000000) (hK : 64 < K) (b s : List Int) (h : Int) (R : Sh.Rep m b h s) (hK2 : 2 * ((m.length % 64 + n0) / 64) + 1 < K) :
    ∃ b' h' s', iter (f76v1.s2 K) K (0, n0, b, h, mn, k0, n0, l0, s) = some (b', h', mn, k0, n0, l0, s') ∧ Sh.Rep (m ++ l0) b' h' s' := by
  subst hl
  refine Sh.take_all l0 (fun off rem b h s => (off, rem, b, h, mn, k0, l0.length, l0, s)) (fun b h s => (b, h, mn, k0, l0.length, l0, s)) (fun rec off b h s => ?_) (fun rec off rem b r k s hsum h0 hr hk hob => ?_) K m ho b s h R hK2
  · simp only [f76v1.s2, f76v1.s2t]
    rw [decide_eq_false (show ¬ (((0 : Nat) : Int) > 0) by omega), cond_f]
  · have e6 : (bif Nat.beq 64 r then 0 else r) = r := by rw [show Nat.beq 64 r = false from (by rw [← Bool.not_eq_true, Nat.beq_eq]; omega), cond_f]
    have e9 : Nat.min rem (64 - r) = k := hk
    simp only [f76v1.s2, f76v1.s2t]
    rw [decide_eq_true (show (((rem : Nat) : Int) > 0) by omega), cond_t, decide_eq_true (show (0 : Int) ≤ (r : Int) ∧ (r : Int) ≤ 64 by omega), cond_t]
    simp only [Int.toNat_natCast, e6, e9]
    rw [ble_true (show off + rem ≤ l0.length by omega), ble_true (show r + (64 - r) ≤ 64 by omega), show Nat.beq rem rem = true from Nat.beq_refl rem, Bool.and_self, Bool.and_self, Bool.and_self, cond_t, decide_eq_true (show (0 : Int) ≤ (k : Int) ∧ (k : Int) ≤ (rem : Int) by omega), cond_t,
      show IntKind.wrap .i64 ((r : Int) + (k : Int)) = ((r + k : Nat) : Int) by rw [wrap_i _ (by omega) (by omega)]; omega]
    by_cases hc : r + k = 64
    · rw [if_pos hc, show (((r + k : Nat) : Int) == 64) = true from beq_iff_eq.2 (by omega), cond_t, f98.spec K s _ _ mn hob hK, bind_s]
    · rw [if_neg hc, show (((r + k : Nat) : Int) == 64) = false from beq_eq_false_iff_ne.2 (by omega), cond_f]
theorem f76v2.s2_ok (K : Nat) (m : List Int) (mn : Int) (k0 : Nat) (k1 : Nat) (k2 : Nat) (n0 : Nat) (l0 : List Int) (n1 : Nat) (l1 : List Int) (n2 : Nat) (l2 : List Int) (hl : l0.length = n0) (ho : octets l0) (hn : n0 ≤ 1000000000000) (hK : 64 < K) (b s : List Int) (h : Int) (R : Sh.Rep m b h s) (hK2 : 2 * ((m.length % 64 + n0) / 64) + 1 < K) :
    ∃ b' h' s', iter (f76v2.s2 K) K (0, n0, b, h, mn, k0, k1, k2, n0, l0, n1, l1, n2, l2, s) = some (b', h', mn, k0, k1, k2, n0, l0, n1, l1, n2, l2, s') ∧ Sh.Rep (m ++ l0) b' h' s' := by
  subst hl
  refine Sh.take_all l0 (fun off rem b h s => (off, rem, b, h, mn, k0, k1, k2, l0.length, l0, n1, l1, n2, l2, s)) (fun b h s => (b, h, mn, k0, k1, k2, l0.length, l0, n1, l1, n2, l2, s)) (fun rec off b h s => ?_) (fun rec off rem b r k s hsum h0 hr hk hob => ?_) K m ho b s h R hK2
  · simp only [f76v2.s2, f76v2.s2t]
    rw [decide_eq_false (show ¬ (((0 : Nat) : Int) > 0) by omega), cond_f]
  · have e6 : (bif Nat.beq 64 r then 0 else r) = r := by rw [show Nat.beq 64 r = false from (by rw [← Bool.not_eq_true, Nat.beq_eq]; omega), cond_f]
    have e9 : Nat.min rem (64 - r) = k := hk
    simp only [f76v2.s2, f76v2.s2t]
    rw [decide_eq_true (show (((rem : Nat) : Int) > 0) by omega), cond_t, decide_eq_true (show (0 : Int) ≤ (r : Int) ∧ (r : Int) ≤ 64 by omega), cond_t]
    simp only [Int.toNat_natCast, e6, e9]
    rw [ble_true (show off + rem ≤ l0.length by omega), ble_true (show r + (64 - r) ≤ 64 by omega), show Nat.beq rem rem = true from Nat.beq_refl rem, Bool.and_self, Bool.and_self, Bool.and_self, cond_t, decide_eq_true (show (0 : Int) ≤ (k : Int) ∧ (k : Int) ≤ (rem : Int) by omega), cond_t,
      show IntKind.wrap .i64 ((r : Int) + (k : Int)) = ((r + k : Nat) : Int) by rw [wrap_i _ (by omega) (by omega)]; omega]
    by_cases hc : r + k = 64
    · rw [if_pos hc, show (((r + k : Nat) : Int) == 64) = true from beq_iff_eq.2 (by omega), cond_t, f98.spec K s _ _ mn hob hK, bind_s]
    · rw [if_neg hc, show (((r + k : Nat) : Int) == 64) = false from beq_eq_false_iff_ne.2 (by omega), cond_f]
theorem f76v2.s2b_ok (K : Nat) (m : List Int) (mn : Int) (k0 : Nat) (k1 : Nat) (k2 : Nat) (n0 : Nat) (l0 : List Int) (n1 : Nat) (l1 : List Int) (n2 : Nat) (l2 : List Int) (hl : l1.length = n1) (ho : octets l1) (hn : n1 ≤ 1000000000000) (hK : 64 < K) (b s : List Int) (h : Int) (R : Sh.Rep m b h s) (hK2 : 2 * ((m.length % 64 + n1) / 64) + 1 < K) :
    ∃ b' h' s', iter (f76v2.s2b K) K (0, n1, b, h, mn, k0, k1, k2, n0, l0, n1, l1, n2, l2, s) = some (b', h', mn, k0, k1, k2, n0, l0, n1, l1, n2, l2, s') ∧ Sh.Rep (m ++ l1) b' h' s' := by
  subst hl
  refine Sh.take_all l1 (fun off rem b h s => (off, rem, b, h, mn, k0, k1, k2, n0, l0, l1.length, l1, n2, l2, s)) (fun b h s => (b, h, mn, k0, k1, k2, n0, l0, l1.length, l1, n2, l2, s)) (fun rec off b h s => ?_) (fun rec off rem b r k s hsum h0 hr hk hob => ?_) K m ho b s h R hK2
  · simp only [f76v2.s2b, f76v2.s2bt]
    rw [decide_eq_false (show ¬ (((0 : Nat) : Int) > 0) by omega), cond_f]
  · have e6 : (bif Nat.beq 64 r then 0 else r) = r := by rw [show Nat.beq 64 r = false from (by rw [← Bool.not_eq_true, Nat.beq_eq]; omega), cond_f]
    have e9 : Nat.min rem (64 - r) = k := hk
    simp only [f76v2.s2b, f76v2.s2bt]
    rw [decide_eq_true (show (((rem : Nat) : Int) > 0) by omega), cond_t, decide_eq_true (show (0 : Int) ≤ (r : Int) ∧ (r : Int) ≤ 64 by omega), cond_t]
    simp only [Int.toNat_natCast, e6, e9]
    rw [ble_true (show off + rem ≤ l1.length by omega), ble_true (show r + (64 - r) ≤ 64 by omega), show Nat.beq rem rem = true from Nat.beq_refl rem, Bool.and_self, Bool.and_self, Bool.and_self, cond_t, decide_eq_true (show (0 : Int) ≤ (k : Int) ∧ (k : Int) ≤ (rem : Int) by omega), cond_t,
      show IntKind.wrap .i64 ((r : Int) + (k : Int)) = ((r + k : Nat) : Int) by rw [wrap_i _ (by omega) (by omega)]; omega]
    by_cases hc : r + k = 64
    · rw [if_pos hc, show (((r + k : Nat) : Int) == 64) = true from beq_iff_eq.2 (by omega), cond_t, f98.spec K s _ _ mn hob hK, bind_s]
    · rw [if_neg hc, show (((r + k : Nat) : Int) == 64) = false from beq_eq_false_iff_ne.2 (by omega), cond_f]
theorem f76v2.s2c_ok (K : Nat) (m : List Int) (mn : Int) (k0 : Nat) (k1 : Nat) (k2 : Nat) (n0 : Nat) (l0 : List Int) (n1 : Nat) (l1 : List Int) (n2 : Nat) (l2 : List Int) (hl : l2.length = n2) (ho : octets l2) (hn : n2 ≤ 1000000000000) (hK : 64 < K) (b s : List Int) (h : Int) (R : Sh.Rep m b h s) (hK2 : 2 * ((m.length % 64 + n2) / 64) + 1 < K) :
    ∃ b' h' s', iter (f76v2.s2c K) K (0, n2, b, h, mn, k0, k1, k2, n0, l0, n1, l1, n2, l2, s) = some (b', h', mn, k0, k1, k2, n0, l0, n1, l1, n2, l2, s') ∧ Sh.Rep (m ++ l2) b' h' s' := by
  subst hl
  refine Sh.take_all l2 (fun off rem b h s => (off, rem, b, h, mn, k0, k1, k2, n0, l0, n1, l1, l2.length, l2, s)) (fun b h s => (b, h, mn, k0, k1, k2, n0, l0, n1, l1, l2.length, l2, s)) (fun rec off b h s => ?_) (fun rec off rem b r k s hsum h0 hr hk hob => ?_) K m ho b s h R hK2
  · simp only [f76v2.s2c, f76v2.s2ct]
    rw [decide_eq_false (show ¬ (((0 : Nat) : Int) > 0) by omega), cond_f]
  · have e6 : (bif Nat.beq 64 r then 0 else r) = r := by rw [show Nat.beq 64 r = false from (by rw [← Bool.not_eq_true, Nat.beq_eq]; omega), cond_f]
    have e9 : Nat.min rem (64 - r) = k := hk
    simp only [f76v2.s2c, f76v2.s2ct]
    rw [decide_eq_true (show (((rem : Nat) : Int) > 0) by omega), cond_t, decide_eq_true (show (0 : Int) ≤ (r : Int) ∧ (r : Int) ≤ 64 by omega), cond_t]
    simp only [Int.toNat_natCast, e6, e9]
    rw [ble_true (show off + rem ≤ l2.length by omega), ble_true (show r + (64 - r) ≤ 64 by omega), show Nat.beq rem rem = true from Nat.beq_refl rem, Bool.and_self, Bool.and_self, Bool.and_self, cond_t, decide_eq_true (show (0 : Int) ≤ (k : Int) ∧ (k : Int) ≤ (rem : Int) by omega), cond_t,
      show IntKind.wrap .i64 ((r : Int) + (k : Int)) = ((r + k : Nat) : Int) by rw [wrap_i _ (by omega) (by omega)]; omega]
    by_cases hc : r + k = 64
    · rw [if_pos hc, show (((r + k : Nat) : Int) == 64) = true from beq_iff_eq.2 (by omega), cond_t, f98.spec K s _ _ mn hob hK, bind_s]
    · rw [if_neg hc, show (((r + k : Nat) : Int) == 64) = false from beq_eq_false_iff_ne.2 (by omega), cond_f]
theorem f76.spec (K : Nat) (m : List Int) (n0 : Nat) (l0 : List Int) (n1 : Nat) (l1 : List Int) (e0 : l0.length = n0) (o0 : octets l0) (z0 : n0 ≤ 1000000000000) (e1 : l1.length = n1) (o1 : octets l1) (z1 : n1 ≤ 1000000000000) (b s : List Int) (h : Int) (R : Sh.Rep m b h s) (hK : 64 + n0 + n1 < K) :
    ∃ b' h' s', f76.F K (b, h, ((m.length % 18446744073709551616 : Nat) : Int), n0, n1, s, n0, l0, n1, l1) = some (b', h', (((m ++ l0 ++ l1).length % 18446744073709551616 : Nat) : Int), n0, n1, n0, l0, n1, l1, s') ∧ Sh.Rep (m ++ l0 ++ l1) b' h' s' := by
  simp only [f76.F, f76.T]
  rw [tot_add]
  obtain ⟨b0, h0, s0, i0, R0⟩ := f76.s2_ok K (m) ((((m).length + n0) % 18446744073709551616 : Nat) : Int) n0 n1 n0 l0 n1 l1 e0 o0 z0 (by omega) _ _ _ R (by omega)
  rw [i0, bind_s]
  simp only []
  rw [show (m).length + n0 = (m ++ l0).length from by simp only [List.length_append]; omega]
  rw [tot_add]
  obtain ⟨b1, h1, s1, i1, R1⟩ := f76.s2b_ok K (m ++ l0) ((((m ++ l0).length + n1) % 18446744073709551616 : Nat) : Int) n0 n1 n0 l0 n1 l1 e1 o1 z1 (by omega) _ _ _ R0 (by omega)
  rw [i1, bind_s]
  simp only []
  rw [show (m ++ l0).length + n1 = (m ++ l0 ++ l1).length from by simp only [List.length_append]; omega]
  exact ⟨b1, h1, s1, rfl, R1⟩
theorem f76v1.spec (K : Nat) (m : List Int) (n0 : Nat) (l0 : List Int) (e0 : l0.length = n0) (o0 : octets l0) (z0 : n0 ≤ 1000000000000) (b s : List Int) (h : Int) (R : Sh.Rep m b h s) (hK : 64 + n0 < K) :
    ∃ b' h' s', f76v1.F K (b, h, ((m.length % 18446744073709551616 : Nat) : Int), n0, s, n0, l0) = some (b', h', (((m ++ l0).length % 18446744073709551616 : Nat) : Int), n0, n0, l0, s') ∧ Sh.Rep (m ++ l0) b' h' s' := by
  simp only [f76v1.F, f76v1.T]
  rw [tot_add]
  obtain ⟨b0, h0, s0, i0, R0⟩ := f76v1.s2_ok K (m) ((((m).length + n0) % 18446744073709551616 : Nat) : Int) n0 n0 l0 e0 o0 z0 (by omega) _ _ _ R (by omega)
  rw [i0, bind_s]
  simp only []
  rw [show (m).length + n0 = (m ++ l0).length from by simp only [List.length_append]; omega]
  exact ⟨b0, h0, s0, rfl, R0⟩
theorem f76v2.spec (K : Nat) (m : List Int) (n0 : Nat) (l0 : List Int) (n1 : Nat) (l1 : List Int) (n2 : Nat) (l2 : List Int) (e0 : l0.length = n0) (o0 : octets l0) (z0 : n0 ≤ 1000000000000) (e1 : l1.length = n1) (o1 : octets l1) (z1 : n1 ≤ 1000000000000) (e2 : l2.length = n2) (o2 : octets l2) (z2 : n2 ≤ 1000000000000) (b s : List Int) (h : Int) (R : Sh.Rep m b h s) (hK : 64 + n0 + n1 + n2 < K) :
    ∃ b' h' s', f76v2.F K (b, h, ((m.length % 18446744073709551616 : Nat) : Int), n0, n1, n2, s, n0, l0, n1, l1, n2, l2) = some (b', h', (((m ++ l0 ++ l1 ++ l2).length % 18446744073709551616 : Nat) : Int), n0, n1, n2, n0, l0, n1, l1, n2, l2, s') ∧ Sh.Rep (m ++ l0 ++ l1 ++ l2) b' h' s' := by
  simp only [f76v2.F, f76v2.T]
  rw [tot_add]
  obtain ⟨b0, h0, s0, i0, R0⟩ := f76v2.s2_ok K (m) ((((m).length + n0) % 18446744073709551616 : Nat) : Int) n0 n1 n2 n0 l0 n1 l1 n2 l2 e0 o0 z0 (by omega) _ _ _ R (by omega)
  rw [i0, bind_s]
  simp only []
  rw [show (m).length + n0 = (m ++ l0).length from by simp only [List.length_append]; omega]
  rw [tot_add]
  obtain ⟨b1, h1, s1, i1, R1⟩ := f76v2.s2b_ok K (m ++ l0) ((((m ++ l0).length + n1) % 18446744073709551616 : Nat) : Int) n0 n1 n2 n0 l0 n1 l1 n2 l2 e1 o1 z1 (by omega) _ _ _ R0 (by omega)
  rw [i1, bind_s]
  simp only []
  rw [show (m ++ l0).length + n1 = (m ++ l0 ++ l1).length from by simp only [List.length_append]; omega]
  rw [tot_add]
  obtain ⟨b2, h2, s2, i2, R2⟩ := f76v2.s2c_ok K (m ++ l0 ++ l1) ((((m ++ l0 ++ l1).length + n2) % 18446744073709551616 : Nat) : Int) n0 n1 n2 n0 l0 n1 l1 n2 l2 e2 o2 z2 (by omega) _ _ _ R1 (by omega)
  rw [i2, bind_s]
  simp only []
  rw [show (m ++ l0 ++ l1).length + n2 = (m ++ l0 ++ l1 ++ l2).length from by simp only [List.length_append]; omega]
  exact ⟨b2, h2, s2, rfl, R2⟩
end Go.Proofs

namespace Go.Proofs
open Go.VM
namespace f75
abbrev Ty0 := List Int × Int × Int × List Int
def T (_K : Nat)  : Option (Ty0) :=
 some ([0, 0, 0, 0, 0, 0, 0, 0, 0, 0, 0, 0, 0, 0, 0, 0, 0, 0, 0, 0, 0, 0, 0, 0, 0, 0, 0, 0, 0, 0, 0, 0, 0, 0, 0, 0, 0, 0, 0, 0, 0, 0, 0, 0, 0, 0, 0, 0, 0, 0, 0, 0, 0, 0, 0, 0, 0, 0, 0, 0, 0, 0, 0, 0], 0, 0, [1779033703, 3144134277, 1013904242, 2773480762, 1359893119, 2600822924, 528734635, 1541459225])
def F (K : Nat) (_x : Unit) : Option (Ty0) := T K
def av (_x : Unit) : List VV := []
def bl (_x : Unit) : List (Nat × Blk) := []
def inA : VS → Option (Unit)
 | ⟨[], [], 0⟩ => some ()
 | _ => none
def o0 (y : Ty0) : VS := ⟨[(0, .ptr 0 0)], [(0, ([.ptr 1 0, .ints .u8 64 y.1, .int .i64 y.2.1, .int .u64 y.2.2.1], 125, .norm)), (1, ([.ints .u32 8 y.2.2.2], 120, .norm))], 2⟩
def inR : VS → Option (Ty0)
 | ⟨[(0, .ptr 0 0)], [(0, ([.ptr 1 0, .ints .u8 64 z0_0, .int .i64 z0_1, .int .u64 z0_2], 125, .norm)), (1, ([.ints .u32 8 z1], 120, .norm))], 2⟩ => some (z0_0, z0_1, z0_2, z1)
 | _ => none
noncomputable def E (K : Nat) : Entry := genE 0 inA (F K) (dv1 o0)
theorem ok (K : Nat) : EntryOK Tryz.prog 75 (E K) := gen_ok mix tys_ok (tab_ok ( tab_nil)) Tryz.func75 (c := bodyOf Tryz.f75) (by kernel_rfl) (by kernel_rfl) (loops_none (lp := lpNone) (by kernel_rfl)) (av := av) (bl := bl) (inR := inR) (out := o0) (fuel := 400)
  (by intro s x h; unfold inA at h; split at h <;> simp at h; rfl) (fun _ => Nat.le_of_ble_eq_true rfl)
  (by intro s y h; unfold inR at h; split at h <;> simp at h <;> subst h <;> rfl) (fun _ _ _ => rfl) (fun _ => by kernel_rfl)
end f75
end Go.Proofs

namespace Go.Proofs
open Go.VM
namespace f99
abbrev Ty0 := Nat × Nat × Int × Nat × List Int
abbrev Ty1 := Nat × Nat × Nat × List Int
abbrev Ty2 := Nat × Nat × List Int
def T (_K : Nat) (a0_0 : Nat) (a0_1 : Nat) (a1 : Int) (m0_0 : Nat) (m0_1 : List Int) : Option ((Ty2) ⊕ (Ty1)) :=
 bif (decide (a1 < 0)) then
 none
 else
 let v5 := IntKind.wrap .i64 (a1 - (IntKind.wrap .i64 (((a0_1 : Nat) : Int) - ((a0_0 : Nat) : Int))))
 bif (decide (v5 > 0)) then
 let v7 := ((a0_1 : Nat) : Int)
 bif (decide (0 ≤ v7 ∧ v7 ≤ ((a0_1 : Nat) : Int)) && true) then
 let v8 := Int.toNat v7
 bif ((((decide (0 ≤ v5) && (fitB ((Int.toNat v5) * 1))) && (Nat.ble v8 m0_0)) && (Nat.ble a0_1 m0_0)) && (fitB ((v8 + (Int.toNat v5)) * 1))) then
 let v9 := v8 + (Int.toNat v5)
 let v10 := v8 + (Int.toNat v5)
 let v12 := ((a0_0 : Nat) : Int)
 bif (decide (0 ≤ v12 ∧ v12 ≤ ((v9 : Nat) : Int)) && (Nat.ble (0 + v9) v10)) then
 some (.inl ((Int.toNat v12), v10, ((padT m0_1 v8) ++ (padT [] (Int.toNat v5)))))
 else
 none
 else
 none
 else
 none
 else
 some (.inr (a0_0, a0_1, m0_0, m0_1))
def F (K : Nat) (x : Ty0) : Option ((Ty2) ⊕ (Ty1)) := T K x.1 x.2.1 x.2.2.1 x.2.2.2.1 x.2.2.2.2
def av (x : Ty0) : List VV := [.sl 0 0 x.1 x.2.1, .int .i64 x.2.2.1]
def bl (x : Ty0) : List (Nat × Blk) := [(0, ([.ints .u8 x.2.2.2.1 x.2.2.2.2], 5, .norm))]
def inA : VS → Option (Ty0)
 | ⟨[(0, .sl 0 0 a0_0 a0_1), (1, .int .i64 a1)], [(0, ([.ints .u8 m0_0 m0_1], 5, .norm))], 1⟩ => some (a0_0, a0_1, a1, m0_0, m0_1)
 | _ => none
def o0 (y : Ty2) : VS := ⟨[(0, .vec 1 0 y.1 2)], [(0, ([], 5, .dead)), (1, ([.ints .u8 y.2.1 y.2.2], 5, .vec 2))], 3⟩
def o1 (y : Ty1) : VS := ⟨[(0, .sl 0 0 y.1 y.2.1)], [(0, ([.ints .u8 y.2.2.1 y.2.2.2], 5, .norm))], 1⟩
def inR : VS → Option ((Ty2) ⊕ (Ty1))
 | ⟨[(0, .vec 1 0 y 2)], [(0, ([], 5, .dead)), (1, ([.ints .u8 z1_0 z1_1], 5, .vec 2))], 3⟩ => some (.inl (y, z1_0, z1_1))
 | ⟨[(0, .sl 0 0 y_0 y_1)], [(0, ([.ints .u8 z0_0 z0_1], 5, .norm))], 1⟩ => some (.inr (y_0, y_1, z0_0, z0_1))
 | _ => none
noncomputable def E (K : Nat) : Entry := genE 1 inA (F K) (dvA (dv1 o0) (dv1 o1))
theorem ok (K : Nat) : EntryOK Tryz.prog 99 (E K) := gen_ok mix tys_ok (tab_ok ( tab_nil)) Tryz.func99 (c := bodyOf Tryz.f99) (by kernel_rfl) (by kernel_rfl) (loops_none (lp := lpNone) (by kernel_rfl)) (av := av) (bl := bl) (inR := inR) (out := (alt o0 o1)) (fuel := 400)
  (by intro s x h; unfold inA at h; split at h <;> simp at h; subst h; rfl) (fun _ => Nat.le_of_ble_eq_true rfl)
  (by intro s y h; unfold inR at h; split at h <;> simp at h <;> subst h <;> rfl) (dvA_ok (fun _ _ _ => rfl) (fun _ _ _ => rfl)) (fun _ => by kernel_rfl)
end f99
end Go.Proofs

namespace Go.Proofs
open Go.VM
namespace f100
abbrev Ty0 := Nat × Nat × List Int
def T (_K : Nat) (a0 : Nat) (m0_0 : Nat) (m0_1 : List Int) : Option (Ty0) :=
 let v1 := ((a0 : Nat) : Int)
 let v2 := ((a0 : Nat) : Int)
 bif (((decide (0 ≤ v2 ∧ v2 ≤ ((a0 : Nat) : Int)) && (decide (0 ≤ v1 ∧ v1 ≤ ((Int.toNat v2 : Nat) : Int)))) && true) && (Nat.ble (0 + a0) m0_0)) then
 some ((Int.toNat v1), m0_0, m0_1)
 else
 none
def F (K : Nat) (x : Ty0) : Option (Ty0) := T K x.1 x.2.1 x.2.2
def av (x : Ty0) : List VV := [.vec 0 0 x.1 1]
def bl (x : Ty0) : List (Nat × Blk) := [(0, ([.ints .u8 x.2.1 x.2.2], 5, .vec 1))]
def inA : VS → Option (Ty0)
 | ⟨[(0, .vec 0 0 a0 1)], [(0, ([.ints .u8 m0_0 m0_1], 5, .vec 1))], 2⟩ => some (a0, m0_0, m0_1)
 | _ => none
def o0 (y : Ty0) : VS := ⟨[(0, .vw false 0 0 y.1 2)], [(0, ([.ints .u8 y.2.1 y.2.2], 5, .vec 1))], 3⟩
def inR : VS → Option (Ty0)
 | ⟨[(0, .vw false 0 0 y 2)], [(0, ([.ints .u8 z0_0 z0_1], 5, .vec 1))], 3⟩ => some (y, z0_0, z0_1)
 | _ => none
noncomputable def E (K : Nat) : Entry := genE 2 inA (F K) (dv1 o0)
theorem ok (K : Nat) : EntryOK Tryz.prog 100 (E K) := gen_ok mix tys_ok (tab_ok ( tab_nil)) Tryz.func100 (c := bodyOf Tryz.f100) (by kernel_rfl) (by kernel_rfl) (loops_none (lp := lpNone) (by kernel_rfl)) (av := av) (bl := bl) (inR := inR) (out := o0) (fuel := 400)
  (by intro s x h; unfold inA at h; split at h <;> simp at h; subst h; rfl) (fun _ => Nat.le_of_ble_eq_true rfl)
  (by intro s y h; unfold inR at h; split at h <;> simp at h <;> subst h <;> rfl) (fun _ _ _ => rfl) (fun _ => by kernel_rfl)
end f100
end Go.Proofs

namespace Go.Proofs
open Go.VM
namespace f77
abbrev Ty0 := Nat × Nat × List Int × Nat × List Int × Nat × List Int
abbrev Ty1 := Nat × Nat × Nat × List Int × Nat × List Int
def T (K : Nat) (a0 : Nat) (a1 : Nat) (m0_0 : Nat) (m0_1 : List Int) (m2_0 : Nat) (m2_1 : List Int) : Option (Ty0) :=
 bif ((Nat.ble (0 + a0) m0_0 && true) && true) then
 (f57.F K (a0, 4, 1, a0, (subI m0_1 0 a0), 1, [(IntKind.wrap .u64 ((a1 : Nat) : Int))])).bind fun y3 =>
 (f99.F K (y3.1, y3.2.1, ((a1 : Nat) : Int), y3.2.2.2.2.2.2.1, y3.2.2.2.2.2.2.2)).bind fun y5 =>
 alt (fun y6 =>
 bif ((Nat.ble (0 + a1) m2_0 && (Nat.ble y6.1 y6.2.1)) && (fitB ((y6.1 + a1) * 1))) then
 (f100.F K ((y6.1 + a1), (y6.1 + a1), ((padT y6.2.2 y6.1) ++ (padT (subI m2_1 0 a1) a1)))).bind fun y9 =>
 some (y9.1, m0_0, m0_1, m2_0, m2_1, y9.2.1, y9.2.2)
 else
 none) (fun y7 =>
 bif (((Nat.ble (0 + a1) m2_0 && (Nat.ble y7.1 y7.2.2.1)) && (Nat.ble y7.2.1 y7.2.2.1)) && (fitB ((y7.1 + a1) * 1))) then
 (f100.F K ((y7.1 + a1), (y7.1 + a1), ((padT y7.2.2.2 y7.1) ++ (padT (subI m2_1 0 a1) a1)))).bind fun y11 =>
 some (y11.1, m0_0, m0_1, m2_0, m2_1, y11.2.1, y11.2.2)
 else
 none) y5
 else
 none
def F (K : Nat) (x : Ty1) : Option (Ty0) := T K x.1 x.2.1 x.2.2.1 x.2.2.2.1 x.2.2.2.2.1 x.2.2.2.2.2
def av (x : Ty1) : List VV := [.vw true 0 0 x.1 1, .vw true 2 0 x.2.1 3]
def bl (x : Ty1) : List (Nat × Blk) := [(0, ([.ints .u8 x.2.2.1 x.2.2.2.1], 0, .ro)), (2, ([.ints .u8 x.2.2.2.2.1 x.2.2.2.2.2], 0, .ro))]
def inA : VS → Option (Ty1)
 | ⟨[(0, .vw true 0 0 a0 1), (1, .vw true 2 0 a1 3)], [(0, ([.ints .u8 m0_0 m0_1], 0, .ro)), (2, ([.ints .u8 m2_0 m2_1], 0, .ro))], 4⟩ => some (a0, a1, m0_0, m0_1, m2_0, m2_1)
 | _ => none
def o0 (y : Ty0) : VS := ⟨[(0, .vw false 4 0 y.1 5)], [(0, ([.ints .u8 y.2.1 y.2.2.1], 0, .ro)), (2, ([.ints .u8 y.2.2.2.1 y.2.2.2.2.1], 0, .ro)), (4, ([.ints .u8 y.2.2.2.2.2.1 y.2.2.2.2.2.2], 5, .vec 6))], 7⟩
def inR : VS → Option (Ty0)
 | ⟨[(0, .vw false 4 0 y 5)], [(0, ([.ints .u8 z0_0 z0_1], 0, .ro)), (2, ([.ints .u8 z2_0 z2_1], 0, .ro)), (4, ([.ints .u8 z4_0 z4_1], 5, .vec 6))], 7⟩ => some (y, z0_0, z0_1, z2_0, z2_1, z4_0, z4_1)
 | _ => none
noncomputable def E (K : Nat) : Entry := genE 4 inA (F K) (dv1 o0)
theorem ok (K : Nat) : EntryOK Tryz.prog 77 (E K) := gen_ok mix tys_ok (sp := tabSp [(57, (viewE [(0, .u8), (2, .u64)] (f57.E K))), (99, (f99.E K)), (100, (f100.E K))]) (tab_ok ((tab_cons (view_ok (f57.ok K)) (tab_cons (f99.ok K) (tab_cons (f100.ok K) tab_nil))))) Tryz.func77 (c := bodyOf Tryz.f77) (by kernel_rfl) (by kernel_rfl) (loops_none (lp := lpNone) (by kernel_rfl)) (av := av) (bl := bl) (inR := inR) (out := o0) (fuel := 400)
  (by intro s x h; unfold inA at h; split at h <;> simp at h; subst h; rfl) (fun _ => Nat.le_of_ble_eq_true rfl)
  (by intro s y h; unfold inR at h; split at h <;> simp at h <;> subst h <;> rfl) (fun _ _ _ => rfl) (fun _ => by kernel_rfl)
end f77
end Go.Proofs

namespace Go.Proofs
open Go.VM
namespace f79
abbrev Ty0 := List Int × List Int × Int × Int
abbrev Ty1 := List Int × Int × Int × List Int
def T (K : Nat) (m0_0 : List Int) (m0_1 : Int) (m0_2 : Int) (m1 : List Int) : Option (Ty0) :=
 let v2 := Int.tmod (IntKind.wrap .i64 (119 - m0_1)) 64
 bif lenOK v2 v2 1 then
 let v3 := Int.toNat v2
 (f78.F K (0, (IntKind.wrap .u64 (8 * m0_2)), 8, 0, [])).bind fun y7 =>
 bif ((Nat.ble (0 + v3) (Int.toNat v2) && (Nat.ble v3 (Int.toNat v2))) && ((Nat.ble (0 + y7.1) y7.2.2.2.2.1 && (Nat.ble y7.1 y7.2.1)) && true)) then
 (f76v2.F K (m0_0, m0_1, m0_2, 1, v3, y7.1, m1, 1, [128], v3, (subI [] 0 v3), y7.1, (subI y7.2.2.2.2.2 0 y7.1))).bind fun y8 =>
 (f78.F K (0, (IntKind.wrap .u64 (List.getD y8.2.2.2.2.2.2.2.2.2.2.2.2 0 0)), 4, 0, [])).bind fun y11 =>
 bif ((Nat.ble (0 + y11.1) y11.2.2.2.2.1 && (Nat.ble y11.1 y11.2.1)) && true) then
 (f78.F K (y11.1, (IntKind.wrap .u64 (List.getD y8.2.2.2.2.2.2.2.2.2.2.2.2 1 0)), 4, y11.1, (subI y11.2.2.2.2.2 0 y11.1))).bind fun y14 =>
 bif ((Nat.ble (0 + y14.1) y14.2.2.2.2.1 && (Nat.ble y14.1 y14.2.1)) && true) then
 (f78.F K (y14.1, (IntKind.wrap .u64 (List.getD y8.2.2.2.2.2.2.2.2.2.2.2.2 2 0)), 4, y14.1, (subI y14.2.2.2.2.2 0 y14.1))).bind fun y17 =>
 bif ((Nat.ble (0 + y17.1) y17.2.2.2.2.1 && (Nat.ble y17.1 y17.2.1)) && true) then
 (f78.F K (y17.1, (IntKind.wrap .u64 (List.getD y8.2.2.2.2.2.2.2.2.2.2.2.2 3 0)), 4, y17.1, (subI y17.2.2.2.2.2 0 y17.1))).bind fun y20 =>
 bif ((Nat.ble (0 + y20.1) y20.2.2.2.2.1 && (Nat.ble y20.1 y20.2.1)) && true) then
 (f78.F K (y20.1, (IntKind.wrap .u64 (List.getD y8.2.2.2.2.2.2.2.2.2.2.2.2 4 0)), 4, y20.1, (subI y20.2.2.2.2.2 0 y20.1))).bind fun y23 =>
 bif ((Nat.ble (0 + y23.1) y23.2.2.2.2.1 && (Nat.ble y23.1 y23.2.1)) && true) then
 (f78.F K (y23.1, (IntKind.wrap .u64 (List.getD y8.2.2.2.2.2.2.2.2.2.2.2.2 5 0)), 4, y23.1, (subI y23.2.2.2.2.2 0 y23.1))).bind fun y26 =>
 bif ((Nat.ble (0 + y26.1) y26.2.2.2.2.1 && (Nat.ble y26.1 y26.2.1)) && true) then
 (f78.F K (y26.1, (IntKind.wrap .u64 (List.getD y8.2.2.2.2.2.2.2.2.2.2.2.2 6 0)), 4, y26.1, (subI y26.2.2.2.2.2 0 y26.1))).bind fun y29 =>
 bif ((Nat.ble (0 + y29.1) y29.2.2.2.2.1 && (Nat.ble y29.1 y29.2.1)) && true) then
 (f78.F K (y29.1, (IntKind.wrap .u64 (List.getD y8.2.2.2.2.2.2.2.2.2.2.2.2 7 0)), 4, y29.1, (subI y29.2.2.2.2.2 0 y29.1))).bind fun y32 =>
 bif ((Nat.ble (0 + y32.1) y32.2.2.2.2.1 && true) && (Nat.beq y32.1 y32.1)) then
 some ((spl [0, 0, 0, 0, 0, 0, 0, 0, 0, 0, 0, 0, 0, 0, 0, 0, 0, 0, 0, 0, 0, 0, 0, 0, 0, 0, 0, 0, 0, 0, 0, 0] 0 (Nat.min y32.1 32) (subI y32.2.2.2.2.2 0 y32.1)), m0_0, m0_1, m0_2)
 else
 none
 else
 none
 else
 none
 else
 none
 else
 none
 else
 none
 else
 none
 else
 none
 else
 none
 else
 none
def F (K : Nat) (x : Ty1) : Option (Ty0) := T K x.1 x.2.1 x.2.2.1 x.2.2.2
def av (_x : Ty1) : List VV := [.ptr 0 0]
def bl (x : Ty1) : List (Nat × Blk) := [(0, ([.ptr 1 0, .ints .u8 64 x.1, .int .i64 x.2.1, .int .u64 x.2.2.1], 125, .norm)), (1, ([.ints .u32 8 x.2.2.2], 120, .norm))]
def inA : VS → Option (Ty1)
 | ⟨[(0, .ptr 0 0)], [(0, ([.ptr 1 0, .ints .u8 64 m0_0, .int .i64 m0_1, .int .u64 m0_2], 125, .norm)), (1, ([.ints .u32 8 m1], 120, .norm))], 2⟩ => some (m0_0, m0_1, m0_2, m1)
 | _ => none
def o0 (y : Ty0) : VS := ⟨[(0, .agg [.ints .u8 32 y.1])], [(0, ([.ptr 1 0, .ints .u8 64 y.2.1, .int .i64 y.2.2.1, .int .u64 y.2.2.2], 125, .norm)), (1, ([], 120, .dead))], 2⟩
def inR : VS → Option (Ty0)
 | ⟨[(0, .agg [.ints .u8 32 y])], [(0, ([.ptr 1 0, .ints .u8 64 z0_0, .int .i64 z0_1, .int .u64 z0_2], 125, .norm)), (1, ([], 120, .dead))], 2⟩ => some (y, z0_0, z0_1, z0_2)
 | _ => none
noncomputable def E (K : Nat) : Entry := genE 2 inA (F K) (dv1 o0)
theorem ok (K : Nat) : EntryOK Tryz.prog 79 (E K) := gen_ok mix tys_ok (sp := tabSp [(78, (viewE [(0, .u8)] (f78.E K))), (76, (rowsE 1 .u8 (f76v2.E K)))]) (tab_ok ((tab_cons (view_ok (f78.ok K)) (tab_cons (rows_ok (f76v2.ok K)) tab_nil)))) Tryz.func79 (c := bodyOf Tryz.f79) (by kernel_rfl) (by kernel_rfl) (loops_none (lp := lpNone) (by kernel_rfl)) (av := av) (bl := bl) (inR := inR) (out := o0) (fuel := 400)
  (by intro s x h; unfold inA at h; split at h <;> simp at h; subst h; rfl) (fun _ => Nat.le_of_ble_eq_true rfl)
  (by intro s y h; unfold inR at h; split at h <;> simp at h <;> subst h <;> rfl) (fun _ _ _ => rfl) (fun _ => by kernel_rfl)
end f79
end Go.Proofs

namespace Go.Proofs
open Go.VM
namespace f59
abbrev Ty0 := ByteArray × Nat × Nat × Nat × Nat × List Int × Nat × List Int × Nat × List Int
abbrev Ty1 := List Int × Nat × Nat × Nat × Nat × List Int × Nat × List Int × Nat × List Int
def T (K : Nat) (a0 : ByteArray) (m0_0 : Nat) (m0_1 : Nat) (m0_2 : Nat) (m2_0 : Nat) (m2_1 : List Int) (m4_0 : Nat) (m4_1 : List Int) (m6_0 : Nat) (m6_1 : List Int) : Option (Ty1) :=
 (f75.F K ()).bind fun y1 =>
 let v2 := ByteArray.size a0
 bif ((Nat.ble (0 + v2) (ByteArray.size a0) && true) && true) then
 (f77.F K (0, v2, 0, [], v2, (subI (strL a0) 0 v2))).bind fun y4 =>
 (f78.F K (0, 3, 4, 0, [])).bind fun y5 =>
 bif ((Nat.ble (0 + y4.1) y4.2.2.2.2.2.1 && true) && ((Nat.ble (0 + y5.1) y5.2.2.2.2.1 && (Nat.ble y5.1 y5.2.1)) && true)) then
 (f76.F K (y1.1, y1.2.1, y1.2.2.1, y4.1, y5.1, y1.2.2.2, y4.1, (subI y4.2.2.2.2.2.2 0 y4.1), y5.1, (subI y5.2.2.2.2.2 0 y5.1))).bind fun y6 =>
 bif ((Nat.ble (0 + m0_0) m2_0 && true) && true) then
 (f77.F K (0, m0_0, 0, [], m0_0, (subI m2_1 0 m0_0))).bind fun y7 =>
 bif ((Nat.ble (0 + y7.1) y7.2.2.2.2.2.1 && true) && true) then
 (f76v1.F K (y6.1, y6.2.1, y6.2.2.1, y7.1, y6.2.2.2.2.2.2.2.2.2, y7.1, (subI y7.2.2.2.2.2.2 0 y7.1))).bind fun y8 =>
 bif ((Nat.ble (0 + m0_1) m4_0 && true) && true) then
 (f77.F K (0, m0_1, 0, [], m0_1, (subI m4_1 0 m0_1))).bind fun y9 =>
 bif ((Nat.ble (0 + y9.1) y9.2.2.2.2.2.1 && true) && true) then
 (f76v1.F K (y8.1, y8.2.1, y8.2.2.1, y9.1, y8.2.2.2.2.2.2, y9.1, (subI y9.2.2.2.2.2.2 0 y9.1))).bind fun y10 =>
 bif ((Nat.ble (0 + m0_2) m6_0 && true) && true) then
 (f77.F K (0, m0_2, 0, [], m0_2, (subI m6_1 0 m0_2))).bind fun y11 =>
 bif ((Nat.ble (0 + y11.1) y11.2.2.2.2.2.1 && true) && true) then
 (f76v1.F K (y10.1, y10.2.1, y10.2.2.1, y11.1, y10.2.2.2.2.2.2, y11.1, (subI y11.2.2.2.2.2.2 0 y11.1))).bind fun y12 =>
 (f79.F K (y12.1, y12.2.1, y12.2.2.1, y12.2.2.2.2.2.2)).bind fun y13 =>
 some (y13.1, m0_0, m0_1, m0_2, m2_0, m2_1, m4_0, m4_1, m6_0, m6_1)
 else
 none
 else
 none
 else
 none
 else
 none
 else
 none
 else
 none
 else
 none
 else
 none
def F (K : Nat) (x : Ty0) : Option (Ty1) := T K x.1 x.2.1 x.2.2.1 x.2.2.2.1 x.2.2.2.2.1 x.2.2.2.2.2.1 x.2.2.2.2.2.2.1 x.2.2.2.2.2.2.2.1 x.2.2.2.2.2.2.2.2.1 x.2.2.2.2.2.2.2.2.2
def av (x : Ty0) : List VV := [.str x.1, .vw true 0 0 3 1]
def bl (x : Ty0) : List (Nat × Blk) := [(0, ([.vw true 2 0 x.2.1 3, .vw true 4 0 x.2.2.1 5, .vw true 6 0 x.2.2.2.1 7], 0, .ro)), (2, ([.ints .u8 x.2.2.2.2.1 x.2.2.2.2.2.1], 0, .ro)), (4, ([.ints .u8 x.2.2.2.2.2.2.1 x.2.2.2.2.2.2.2.1], 0, .ro)), (6, ([.ints .u8 x.2.2.2.2.2.2.2.2.1 x.2.2.2.2.2.2.2.2.2], 0, .ro))]
def inA : VS → Option (Ty0)
 | ⟨[(0, .str a0), (1, .vw true 0 0 3 1)], [(0, ([.vw true 2 0 m0_0 3, .vw true 4 0 m0_1 5, .vw true 6 0 m0_2 7], 0, .ro)), (2, ([.ints .u8 m2_0 m2_1], 0, .ro)), (4, ([.ints .u8 m4_0 m4_1], 0, .ro)), (6, ([.ints .u8 m6_0 m6_1], 0, .ro))], 8⟩ => some (a0, m0_0, m0_1, m0_2, m2_0, m2_1, m4_0, m4_1, m6_0, m6_1)
 | _ => none
def o0 (y : Ty1) : VS := ⟨[(0, .agg [.ints .u8 32 y.1])], [(0, ([.vw true 2 0 y.2.1 3, .vw true 4 0 y.2.2.1 5, .vw true 6 0 y.2.2.2.1 7], 0, .ro)), (2, ([.ints .u8 y.2.2.2.2.1 y.2.2.2.2.2.1], 0, .ro)), (4, ([.ints .u8 y.2.2.2.2.2.2.1 y.2.2.2.2.2.2.2.1], 0, .ro)), (6, ([.ints .u8 y.2.2.2.2.2.2.2.2.1 y.2.2.2.2.2.2.2.2.2], 0, .ro))], 8⟩
def inR : VS → Option (Ty1)
 | ⟨[(0, .agg [.ints .u8 32 y])], [(0, ([.vw true 2 0 z0_0 3, .vw true 4 0 z0_1 5, .vw true 6 0 z0_2 7], 0, .ro)), (2, ([.ints .u8 z2_0 z2_1], 0, .ro)), (4, ([.ints .u8 z4_0 z4_1], 0, .ro)), (6, ([.ints .u8 z6_0 z6_1], 0, .ro))], 8⟩ => some (y, z0_0, z0_1, z0_2, z2_0, z2_1, z4_0, z4_1, z6_0, z6_1)
 | _ => none
noncomputable def E (K : Nat) : Entry := genE 8 inA (F K) (dv1 o0)
theorem ok (K : Nat) : EntryOK Tryz.prog 59 (E K) := gen_ok mix tys_ok (sp := tabSp [(75, (f75.E K)), (77, (viewE [(0, .u8), (1, .u8)] (f77.E K))), (78, (viewE [(0, .u8)] (f78.E K))), (76, (orF (fitR 1 .u8 (fitE 8 f76.inA)) (rowsE 1 .u8 (f76.E K)) (rowsE 1 .u8 (f76v1.E K)))), (79, (f79.E K))]) (tab_ok ((tab_cons (f75.ok K) (tab_cons (view_ok (f77.ok K)) (tab_cons (view_ok (f78.ok K)) (tab_cons (orF_ok (rows_ok (f76.ok K)) (rows_ok (f76v1.ok K))) (tab_cons (f79.ok K) tab_nil))))))) Tryz.func59 (c := bodyOf Tryz.f59) (by kernel_rfl) (by kernel_rfl) (loops_none (lp := lpNone) (by kernel_rfl)) (av := av) (bl := bl) (inR := inR) (out := o0) (fuel := 400)
  (by intro s x h; unfold inA at h; split at h <;> simp at h; subst h; rfl) (fun _ => Nat.le_of_ble_eq_true rfl)
  (by intro s y h; unfold inR at h; split at h <;> simp at h <;> subst h <;> rfl) (fun _ _ _ => rfl) (fun _ => by kernel_rfl)
end f59
end Go.Proofs
